/- Parts of the proof, joined: Contracts: what an object type has beside its brand. Conditions: lengths below 2^20; Contract: the rule on object types. Conditions: lengths below 2^20; Contract: the table of the rules. No condition; Plain functions on graphs: references, agreement, what is right, what is well-formed. No program. No condition; Contract: the rule of a type's kind. Conditions: lengths below 2^20; Contract: right. Conditions: lengths below 2^20; Contract: Check. Conditions: lengths below 2^20; Contract: opened. Conditions: lengths below 2^20. -/
import Derived.Laws.EntriesVeiled
import Derived.Deep.DeepCutAuto
import Derived.StillTailTactics
import Derived.IntWalk
import Derived.Test.YtldnjnnhfeobdaaGreatDoorG02
import Derived.Test.YtldnjnnhfeobdaaGreatDoorG01
namespace Go.Proofs.YtldnjnnhfeobdaaGreatDoor
set_option linter.all false
set_option linter.unusedSimpArgs false
set_option linter.unusedVariables false
open Go.RowKit Go.Shelf

def badMethod (n : Nat) (m : Method) : Bool := !sigB n m || (!strEq m.proc ByteArray.empty && !isSymbolB m.proc)
def badOver (o : Over) : Bool := !isSymbolB o.proc

def MethodSmall (m : Method) : Prop := m.name.size ≤ 1048576 ∧ m.proc.size ≤ 1048576 ∧ m.args.length ≤ 1048576 ∧ m.raises.length ≤ 1048576 ∧ ∀ r ∈ m.raises, r.size ≤ 1048576

set_option maxRecDepth 100000 in
set_option maxHeartbeats 4000000 in
theorem object3 (w : World) (B : Nat) (A : Option Addr) (n cap : Nat) (m : Method) (va vr : Value) (hn : n ≤ 1048576) (hG : Glob w) (ha : Sl intE w va m.args) (hr : Sl strE w vr m.raises) (hm : MethodSmall m)
    (hc : w.cell? ⟨B, 0, none⟩ = some (.slice A n cap)) :
    Calls Tryz.prog 225 #[.agg #[.string m.name, va, .int .i64 m.result, vr, .string m.proc], .pointer (some ⟨B, 0, none⟩)] w (Ret w (.bool (badMethod n m))) := by
  have hlt := cell_lt hc
  obtain ⟨_, hm2, hm3, hm4, hm5⟩ := hm
  have hsg := fun (w' : World) (hx : Ext w w') => signed_any w' A n cap m va vr hn (hG.mono hx) (ha.mono hx) (hr.mono hx) hm3 hm4 hm5
  have hsy := fun (w' : World) (hx : Ext w w') => isSymbol_any m.proc w' hm2 (hG.mono hx)
  obtain ⟨Aa, ca, rfl⟩ := ha.len
  obtain ⟨Ar, cr, rfl⟩ := hr.len
  unfold badMethod
  rw [strEq_empty]
  generalize sigB n m = r at hsg ⊢
  generalize isSymbolB m.proc = q at hsy ⊢
  have Hsg := Lib.hid hsg
  have Hsy := Lib.hid hsy
  clear hsg hsy ha hr hG hm5
  cases r
  · go_enter Tryz.func225, Tryz.ntmps225
    go_wp2_with fail
    refine (Hsg.out _ ((Ext.refl _).alloc _)).mono ?_
    rintro e w1 ⟨rfl, hx1⟩
    go_wp2_with fail
    go_ret
    exact ⟨rfl, ((Ext.refl _).alloc _).trans hx1⟩
  · cases hp : m.proc.toList.isEmpty
    · go_enter Tryz.func225, Tryz.ntmps225
      go_wp2_with fail
      refine (Hsg.out _ ((Ext.refl _).alloc _)).mono ?_
      rintro e w1 ⟨rfl, hx1⟩
      have c2 := hx1.cell (v := .string m.proc) (p := ⟨w.heap.size, 4, none⟩) (by simp)
      go_wp2_with fail
      refine (Hsy.out _ (((Ext.refl _).alloc _).trans hx1)).mono ?_
      rintro e w2 ⟨rfl, hx2⟩
      go_wp2_with fail
      go_ret
      exact ⟨by cases q <;> rfl, (((Ext.refl _).alloc _).trans hx1).trans hx2⟩
    · go_enter Tryz.func225, Tryz.ntmps225
      go_wp2_with fail
      refine (Hsg.out _ ((Ext.refl _).alloc _)).mono ?_
      rintro e w1 ⟨rfl, hx1⟩
      have c2 := hx1.cell (v := .string m.proc) (p := ⟨w.heap.size, 4, none⟩) (by simp)
      go_wp2_with fail
      go_ret
      exact ⟨rfl, ((Ext.refl _).alloc _).trans hx1⟩

set_option maxRecDepth 100000 in
theorem object4 (w : World) (o : Over) (hG : Glob w) (hs : o.proc.size ≤ 1048576) : Calls Tryz.prog 228 #[.agg #[.string o.name, .string o.proc]] w (Ret w (.bool (badOver o))) := by
  have hsy := fun (w' : World) (hx : Ext w w') => isSymbol_any o.proc w' hs (hG.mono hx)
  unfold badOver
  generalize isSymbolB o.proc = q at hsy ⊢
  have Hsy := Lib.hid hsy
  clear hsy hG
  go_enter Tryz.func228, Tryz.ntmps228
  go_wp2_with fail
  refine (Hsy.out _ ((Ext.refl _).alloc _)).mono ?_
  rintro e w1 ⟨rfl, hx1⟩
  go_wp2_with fail
  go_ret
  exact ⟨rfl, ((Ext.refl _).alloc _).trans hx1⟩

theorem pred225 (w : World) (B : Nat) (A : Option Addr) (n cap : Nat) (xs : List Method) (hn : n ≤ 1048576) (hG : Glob w) (hs : ∀ m ∈ xs, MethodSmall m) (hc : w.cell? ⟨B, 0, none⟩ = some (.slice A n cap)) :
    Pred methodE w 225 #[.pointer (some ⟨B, 0, none⟩)] xs (badMethod n) :=
  ⟨enters_of Tryz.func225 (by kernel_rfl) rfl, by
    rintro x hx w' A' hxt ⟨cs, ⟨va, vr, rfl, ha, hr⟩, rfl⟩
    exact object3 w' B A n cap x va vr hn (hG.mono hxt) ha hr (hs x hx) (hxt.cell hc)⟩
theorem pred228 (w : World) (xs : List Over) (hG : Glob w) (hs : ∀ o ∈ xs, o.name.size ≤ 1048576 ∧ o.proc.size ≤ 1048576) : Pred overE w 228 #[] xs badOver :=
  ⟨enters_of Tryz.func228 (by kernel_rfl) rfl, by
    rintro x hx w' A' hxt ⟨cs, rfl, rfl⟩
    exact object4 w' x (hG.mono hxt) (hs x hx).2⟩

def objectB (g : Graph) (t : Ty) : Bool :=
  !(t.methods.any (badMethod g.length) || t.overs.any badOver) && (differentB (t.methods.map Method.name) 8 && (differentB (t.overs.map Over.name) 8 && overB g t.super kindsObject))

set_option maxRecDepth 100000 in
set_option maxHeartbeats 8000000 in
theorem object_any (w : World) (gv : Value) (g : Graph) (t : Ty) (vp vm vo : Value) (hg : Sl tyE w gv g) (hgn : g.length ≤ 1048576) (hG : Glob w) (hof : TyOf w t vp vm vo) (hs : TySmall t) :
    Calls Tryz.prog 195 #[.agg #[gv], tyV t vp vm vo] w (Ret w (.bool (objectB g t))) := by
  obtain ⟨A, cap, rfl⟩ := hg.len
  obtain ⟨Ap, cp, rfl⟩ := hof.parts.len
  obtain ⟨Am, cm, rfl⟩ := hof.methods.len
  obtain ⟨Ao, co, rfl⟩ := hof.overs.len
  have hms : ∀ m ∈ t.methods, MethodSmall m := hs.method
  have hmn : ∀ s ∈ t.methods.map Method.name, s.size ≤ 1048576 := by
    intro s h; obtain ⟨p, hp, rfl⟩ := List.mem_map.1 h; exact (hs.method p hp).1
  have hon : ∀ s ∈ t.overs.map Over.name, s.size ≤ 1048576 := by
    intro s h; obtain ⟨p, hp, rfl⟩ := List.mem_map.1 h; exact (hs.over p hp).1
  have h1 := fun (w1 : World) (h1 : Ext w w1) => turned_method_str 221 #[] w1 _ t.methods Method.name (hof.methods.mono h1) hs.methods (map221 w1 t.methods)
  have h2 := fun (w1 : World) (h1 : Ext w w1) => turned_over_str 223 #[] w1 _ t.overs Over.name (hof.overs.mono h1) hs.overs (map223 w1 t.overs)
  have h3 := fun (w' : World) (hx : Ext w w') (hc : w'.cell? ⟨w.heap.size, 0, none⟩ = some (.slice A g.length cap)) =>
    containsFunc_method 225 #[.pointer (some ⟨w.heap.size, 0, none⟩)] w' _ _ _ (hof.methods.mono hx) hs.methods (pred225 w' _ A g.length cap t.methods hgn (hG.mono hx) hms hc)
  have h4 := fun (w' : World) (hx : Ext w w') => containsFunc_over 228 #[] w' _ _ _ (hof.overs.mono hx) hs.overs (pred228 w' t.overs (hG.mono hx) hs.over)
  have h5 := fun (w1 : World) (v : Value) (h1 : Sl strE w1 v (t.methods.map Method.name)) => different_any w1 v (t.methods.map Method.name) 8 h1 (by simpa using hs.methods) hmn
  have h6 := fun (w1 : World) (v : Value) (h1 : Sl strE w1 v (t.overs.map Over.name)) => different_any w1 v (t.overs.map Over.name) 8 h1 (by simpa using hs.overs) hon
  have h7 := fun (w1 : World) (v : Value) (h1 : Ext w w1) (h2 : Sl byteE w1 v kindsObject) => over_any w1 _ v g t.super kindsObject (hg.mono h1) h2 hgn (by decide)
  unfold objectB tyV
  have H1 := Lib.hid h1
  have H2 := Lib.hid h2
  have H3 := Lib.hid h3
  have H4 := Lib.hid h4
  have H5 := Lib.hid h5
  have H6 := Lib.hid h6
  have H7 := Lib.hid h7
  have hnm := hs.methods
  have hno := hs.overs
  clear h1 h2 h3 h4 h5 h6 h7 hg hG hof hs hms hmn hon
  generalize t.methods.any (badMethod g.length) = r3 at H3 ⊢
  generalize t.overs.any badOver = r4 at H4 ⊢
  generalize differentB (t.methods.map Method.name) 8 = r5 at H5 ⊢
  generalize differentB (t.overs.map Over.name) 8 = r6 at H6 ⊢
  generalize overB g t.super kindsObject = r7 at H7 ⊢
  go_enter Tryz.func195, Tryz.ntmps195
  go_wp2_with fail
  refine (H1.out _ (((Ext.refl _).alloc _).alloc _)).mono ?_
  rintro e w1 ⟨v1, rfl, hs1, hx1⟩
  have hsl1 := hs1.any
  obtain ⟨A1, cap1, e1⟩ := hsl1.len
  rw [List.length_map] at e1
  subst e1
  have hxa := (((Ext.refl w).alloc _).alloc _).trans hx1
  have c9 := hx1.cell (v := .slice Ao t.overs.length co) (p := ⟨w.heap.size + 1, 9, none⟩) (by simp)
  have c8 := hx1.cell (v := .slice Am t.methods.length cm) (p := ⟨w.heap.size + 1, 8, none⟩) (by simp)
  have c6 := hx1.cell (v := .int .i64 t.super) (p := ⟨w.heap.size + 1, 6, none⟩) (by simp)
  have cg := hx1.cell (v := .slice A g.length cap) (p := ⟨w.heap.size, 0, none⟩) (by simp)
  have Hsl1 := Lib.hid hsl1
  clear hs1 hsl1 hx1
  go_wp2_with fail
  refine (H2.out _ hxa).mono ?_
  rintro e w2 ⟨v2, rfl, hs2, hx2⟩
  have hsl2 := hs2.any
  obtain ⟨A2, cap2, e2⟩ := hsl2.len
  rw [List.length_map] at e2
  subst e2
  have hxb := hxa.trans hx2
  replace c9 := hx2.cell c9
  replace c8 := hx2.cell c8
  replace c6 := hx2.cell c6
  replace cg := hx2.cell cg
  replace Hsl1 := Lib.hid (Hsl1.out.mono hx2)
  have Hsl2 := Lib.hid hsl2
  clear hs2 hsl2 hx2 hxa
  go_wp2_with fail
  refine (H3.out _ hxb cg).mono ?_
  rintro e w3 ⟨rfl, hx3⟩
  have hxc := hxb.trans hx3
  replace c9 := hx3.cell c9
  replace c6 := hx3.cell c6
  replace cg := hx3.cell cg
  replace Hsl1 := Lib.hid (Hsl1.out.mono hx3)
  replace Hsl2 := Lib.hid (Hsl2.out.mono hx3)
  clear hx3 hxb c8
  cases r3
  · go_wp2_with fail
    refine (H4.out _ hxc).mono ?_
    rintro e w4 ⟨rfl, hx4⟩
    have hxd := hxc.trans hx4
    replace c9 := hx4.cell c9
    replace c6 := hx4.cell c6
    replace cg := hx4.cell cg
    replace Hsl1 := Lib.hid (Hsl1.out.mono hx4)
    replace Hsl2 := Lib.hid (Hsl2.out.mono hx4)
    clear hx4 hxc
    cases r4
    · go_wp2_with fail
      refine (H5.out _ _ Hsl1.out).mono ?_
      rintro e w5 ⟨rfl, hx5⟩
      have hxe := hxd.trans hx5
      replace c6 := hx5.cell c6
      replace cg := hx5.cell cg
      replace Hsl2 := Lib.hid (Hsl2.out.mono hx5)
      clear hx5 hxd Hsl1 c9
      cases r5
      · go_wp2_with fail
        go_ret
        exact ⟨rfl, hxe⟩
      · go_wp2_with fail
        refine (H6.out _ _ Hsl2.out).mono ?_
        rintro e w6 ⟨rfl, hx6⟩
        have hxf := hxe.trans hx6
        replace c6 := hx6.cell c6
        replace cg := hx6.cell cg
        clear hx6 hxe Hsl2
        cases r6
        · go_wp2_with fail
          go_ret
          exact ⟨rfl, hxf⟩
        · go_wp2_with fail
          refine (H7.out _ _ (hxf.alloc _) (lit_bytes w6 kindsObject 5 rfl)).mono ?_
          rintro e w7 ⟨rfl, hx7⟩
          have hxg := (hxf.alloc _).trans hx7
          go_wp2_with fail
          go_ret
          exact ⟨rfl, hxg⟩
    · go_wp2_with fail
      go_ret
      exact ⟨rfl, hxd⟩
  · go_wp2_with fail
    go_ret
    exact ⟨rfl, hxc⟩
end Go.Proofs.YtldnjnnhfeobdaaGreatDoor
/- Contract: the rule on object types. Conditions: lengths below 2^20. -/
namespace Go.Proofs.YtldnjnnhfeobdaaGreatDoor
set_option linter.all false
set_option linter.unusedSimpArgs false
set_option linter.unusedVariables false
open Go.RowKit Go.Shelf


def objectsB (g : Graph) (t : Ty) : Bool := brandedB g.length t && (differentB (t.parts.map Part.name) 8 && objectB g t)
def noObject (t : Ty) : Ty := { noBrand t with parts := [], methods := [], overs := [], super := 0 }
theorem TySmall.noBrand {t : Ty} (h : TySmall t) : TySmall (noBrand t) := ⟨by show ByteArray.empty.size ≤ _; simp, h.opaq, h.parts, h.part, h.methods, h.method, h.overs, h.over⟩
theorem TyOf.noBrand {w : World} {t : Ty} {vp vm vo : Value} (h : TyOf w t vp vm vo) : TyOf w (noBrand t) vp vm vo := ⟨h.parts, h.methods, h.overs⟩

set_option maxRecDepth 100000 in
set_option maxHeartbeats 8000000 in
theorem objects_rule : Rule 159 objectsB noObject := by
  intro w0 w gv g b t vp vm vo hx hB hG hg hgn hof hs hb
  obtain ⟨A, cap, rfl⟩ := hg.len
  obtain ⟨A1, cap1, rfl⟩ := hof.parts.len
  obtain ⟨A2, cap2, rfl⟩ := hof.methods.len
  obtain ⟨A3, cap3, rfl⟩ := hof.overs.len
  have hlt := hb.lt
  unfold objectsB
  have hfin : ∀ w1 : World, Ext w0 w1 → TyBox w1 b (noBrand t) (.slice A1 t.parts.length cap1) (.slice A2 t.methods.length cap2) (.slice A3 t.overs.length cap3) → ∀ r, RulePost w0 b r (noObject t) (.returned (.bool r))
      ((((w1.setCell ⟨b, 7, none⟩ (.slice none 0 0)).setCell ⟨b, 8, none⟩ (.slice none 0 0)).setCell ⟨b, 9, none⟩ (.slice none 0 0)).setCell ⟨b, 6, none⟩ (.int .i64 0)) := fun w1 h1 h2 r => by
    have s1 := TyBox.set h1 hB h2 7 (.slice none 0 0)
    have s2 := TyBox.set s1.1 hB s1.2 8 (.slice none 0 0)
    have s3 := TyBox.set s2.1 hB s2.2 9 (.slice none 0 0)
    have s4 := TyBox.set s3.1 hB s3.2 6 (.int .i64 0)
    exact ⟨rfl, s4.1, _, _, _, s4.2, Len.nil, Len.nil, Len.nil⟩
  have hbr := branded_any (w.alloc (.cells #[.slice A g.length cap] 77)).drew A g.length cap b t _ _ _ hgn hs.brand (hof.parts.mono (hx.alloc _).drew) hs.parts (hb.ext ((Ext.refl _).alloc _).drew)
  have htur := fun (w1 : World) (h1 : Ext w0 w1) => turned_part_str 194 #[] w1 _ t.parts Part.name (hof.parts.mono h1) hs.parts (map194 w1 t.parts)
  have hdif := fun (w1 : World) (v : Value) (h1 : Sl strE w1 v (t.parts.map Part.name)) => different_any w1 v (t.parts.map Part.name) 8 h1 (by simpa using hs.parts) (small_names hs)
  have hobj := fun (w1 : World) (h1 : Ext w0 w1) => object_any w1 _ g (noBrand t) _ _ _ (hg.mono h1) hgn (hG.mono h1) (hof.mono h1).noBrand hs.noBrand
  have hbox : ∀ w1, (w.alloc (.cells #[.slice A g.length cap] 77)).drew.grownBy w1 (some b) → Ext w0 w1 ∧ w1.cell? ⟨w.heap.size, 0, none⟩ = some (.slice A g.length cap) := fun w1 h =>
    ⟨Below.grown (hx.alloc (.cells #[.slice A g.length cap] 77)).drew h (by simp; have := hx.size; omega) (fun k hk => by cases hk; exact hB), h.cell (v := .slice A g.length cap) (by simp) (by simp; omega)⟩
  change ∀ w1, _ → Calls _ _ _ _ (Ret w1 (.bool (objectB g t))) at hobj
  generalize differentB (t.parts.map Part.name) 8 = r2 at hdif ⊢
  generalize objectB g t = r3 at hobj ⊢
  generalize brandedB g.length t = r1 at hbr ⊢
  have Hbr := Lib.hid hbr
  have Hfin := Lib.hid hfin
  have Htur := Lib.hid htur
  have Hdif := Lib.hid hdif
  have Hobj := Lib.hid hobj
  have Hbox := Lib.hid hbox
  have hpn := hs.parts
  clear hx hb hG hg hof hs hbr hfin htur hdif hobj hbox
  cases r1
  · clear Htur Hdif Hobj
    go_enter Tryz.func159, Tryz.ntmps159
    go_wp2_with fail
    refine wp_region_anyX (by kernel_rfl) ?_
    refine any_val (i := 1) (v := ?_) (some 7) #[false, true, false, false, false, false, false, false, false, false, false, false, false, false, false, false, false, false, false] rfl rfl rfl (by kernel_rfl) (by kernel_rfl) (by kernel_rfl) (fun _ _ _ h => h) (Or.inl ⟨by rfl, ?_⟩) ?_
    rotate_left
    · intro w
      go_simp
      (first | done | exact rfl)
    simp only [Act.put, List.setIfInBounds_toArray, List.set_cons_zero, List.set_cons_succ]
    refine wpAny_ready (rs := [0]) (by kernel_rfl) (by simp) (AllReady.cons rfl (fun K hK => ?_) AllReady.nil)
    go_simp
    refine hK _ _ ?_
    clear hK K
    refine wpAny_ready (rs := [2]) (by kernel_rfl) (by simp) (AllReady.cons rfl (fun K hK => ?_) AllReady.nil)
    go_simp
    refine Hbr.out.mono ?_
    rintro e w1 ⟨rfl, hb1, hg1⟩
    obtain ⟨hx1, hc1⟩ := Hbox.out w1 hg1
    have Hx1 := Lib.hid hx1
    have Hb1 := Lib.hid hb1
    have c7 := hb1.at.c7
    simp only [Nat.zero_add] at c7
    clear hb1 hg1 hx1
    refine hK _ _ ?_
    clear hK K
    refine any_val (i := 3) (v := ?_) (some 9) #[true, true, true, true, false, false, false, false, false, false, false, false, false, false, false, false, false, false, false] rfl rfl rfl (by kernel_rfl) (by kernel_rfl) (by kernel_rfl) (fun _ _ _ h => h) (Or.inl ⟨by rfl, ?_⟩) ?_
    rotate_left
    · intro w
      go_simp
      (first | done | exact rfl)
    simp only [Act.put, List.setIfInBounds_toArray, List.set_cons_zero, List.set_cons_succ]
    refine any_val (i := 4) (v := undef) (some 10) #[true, true, true, true, true, false, false, false, false, false, false, false, false, false, false, false, false, false, false] rfl rfl rfl (by kernel_rfl) (by kernel_rfl) (by kernel_rfl) (fun _ _ _ h => h) (Or.inr ⟨by rfl, rfl⟩) ?_
    simp only [Act.put, List.setIfInBounds_toArray, List.set_cons_zero, List.set_cons_succ]
    refine any_val (i := 5) (v := undef) (some 11) #[true, true, true, true, true, true, false, false, false, false, false, false, false, false, false, false, false, false, false] rfl rfl rfl (by kernel_rfl) (by kernel_rfl) (by kernel_rfl) (fun _ _ _ h => h) (Or.inr ⟨by rfl, rfl⟩) ?_
    simp only [Act.put, List.setIfInBounds_toArray, List.set_cons_zero, List.set_cons_succ]
    refine any_val (i := 6) (v := undef) (some 12) #[true, true, true, true, true, true, true, false, false, false, false, false, false, false, false, false, false, false, false] rfl rfl rfl (by kernel_rfl) (by kernel_rfl) (by kernel_rfl) (fun _ _ _ h => h) (Or.inr ⟨by rfl, rfl⟩) ?_
    simp only [Act.put, List.setIfInBounds_toArray, List.set_cons_zero, List.set_cons_succ]
    refine any_val (i := 7) (v := undef) (some 13) #[true, true, true, true, true, true, true, true, false, false, false, false, false, false, false, false, false, false, false] rfl rfl rfl (by kernel_rfl) (by kernel_rfl) (by kernel_rfl) (fun _ _ _ h => h) (Or.inr ⟨by rfl, rfl⟩) ?_
    simp only [Act.put, List.setIfInBounds_toArray, List.set_cons_zero, List.set_cons_succ]
    refine any_val (i := 8) (v := undef) (some 14) #[true, true, true, true, true, true, true, true, true, false, false, false, false, false, false, false, false, false, false] rfl rfl rfl (by kernel_rfl) (by kernel_rfl) (by kernel_rfl) (fun _ _ _ h => h) (Or.inr ⟨by rfl, rfl⟩) ?_
    simp only [Act.put, List.setIfInBounds_toArray, List.set_cons_zero, List.set_cons_succ]
    refine any_val (i := 9) (v := undef) (some 15) #[true, true, true, true, true, true, true, true, true, true, false, false, false, false, false, false, false, false, false] rfl rfl rfl (by kernel_rfl) (by kernel_rfl) (by kernel_rfl) (fun _ _ _ h => h) (Or.inr ⟨by rfl, rfl⟩) ?_
    simp only [Act.put, List.setIfInBounds_toArray, List.set_cons_zero, List.set_cons_succ]
    refine any_val (i := 10) (v := ?_) (some 16) #[true, true, true, true, true, true, true, true, true, true, true, false, false, false, false, false, false, false, false] rfl rfl rfl (by kernel_rfl) (by kernel_rfl) (by kernel_rfl) (fun _ _ _ h => h) (Or.inl ⟨by rfl, ?_⟩) ?_
    rotate_left
    · intro w
      go_simp
      (first | done | exact rfl)
    simp only [Act.put, List.setIfInBounds_toArray, List.set_cons_zero, List.set_cons_succ]
    refine any_val (i := 11) (v := ?_) (some 17) #[true, true, true, true, true, true, true, true, true, true, true, true, false, false, false, false, false, false, false] rfl rfl rfl (by kernel_rfl) (by kernel_rfl) (by kernel_rfl) (fun _ _ _ h => h) (Or.inl ⟨by rfl, ?_⟩) ?_
    rotate_left
    · intro w
      go_simp
      (first | done | exact rfl)
    simp only [Act.put, List.setIfInBounds_toArray, List.set_cons_zero, List.set_cons_succ]
    refine any_val (i := 12) (v := undef) (some 18) #[true, true, true, true, true, true, true, true, true, true, true, true, true, false, false, false, false, false, false] rfl rfl rfl (by kernel_rfl) (by kernel_rfl) (by kernel_rfl) (fun _ _ _ h => h) (Or.inr ⟨by rfl, rfl⟩) ?_
    simp only [Act.put, List.setIfInBounds_toArray, List.set_cons_zero, List.set_cons_succ]
    refine any_val (i := 13) (v := undef) (some 19) #[true, true, true, true, true, true, true, true, true, true, true, true, true, true, false, false, false, false, false] rfl rfl rfl (by kernel_rfl) (by kernel_rfl) (by kernel_rfl) (fun _ _ _ h => h) (Or.inr ⟨by rfl, rfl⟩) ?_
    simp only [Act.put, List.setIfInBounds_toArray, List.set_cons_zero, List.set_cons_succ]
    refine any_val (i := 14) (v := undef) (some 20) #[true, true, true, true, true, true, true, true, true, true, true, true, true, true, true, false, false, false, false] rfl rfl rfl (by kernel_rfl) (by kernel_rfl) (by kernel_rfl) (fun _ _ _ h => h) (Or.inr ⟨by rfl, rfl⟩) ?_
    simp only [Act.put, List.setIfInBounds_toArray, List.set_cons_zero, List.set_cons_succ]
    refine any_val (i := 15) (v := undef) (some 21) #[true, true, true, true, true, true, true, true, true, true, true, true, true, true, true, true, false, false, false] rfl rfl rfl (by kernel_rfl) (by kernel_rfl) (by kernel_rfl) (fun _ _ _ h => h) (Or.inr ⟨by rfl, rfl⟩) ?_
    simp only [Act.put, List.setIfInBounds_toArray, List.set_cons_zero, List.set_cons_succ]
    refine any_val (i := 16) (v := undef) (some 22) #[true, true, true, true, true, true, true, true, true, true, true, true, true, true, true, true, true, false, false] rfl rfl rfl (by kernel_rfl) (by kernel_rfl) (by kernel_rfl) (fun _ _ _ h => h) (Or.inr ⟨by rfl, rfl⟩) ?_
    simp only [Act.put, List.setIfInBounds_toArray, List.set_cons_zero, List.set_cons_succ]
    refine any_val (i := 17) (v := ?_) (some 23) #[true, true, true, true, true, true, true, true, true, true, true, true, true, true, true, true, true, true, false] rfl rfl rfl (by kernel_rfl) (by kernel_rfl) (by kernel_rfl) (fun _ _ _ h => h) (Or.inl ⟨by rfl, ?_⟩) ?_
    rotate_left
    · intro w
      go_simp
      (first | done | exact rfl)
    simp only [Act.put, List.setIfInBounds_toArray, List.set_cons_zero, List.set_cons_succ]
    refine any_val (i := 18) (v := ?_) (some 5) #[true, true, true, true, true, true, true, true, true, true, true, true, true, true, true, true, true, true, true] rfl rfl rfl (by kernel_rfl) (by kernel_rfl) (by kernel_rfl) (fun _ _ _ h => h) (Or.inl ⟨by rfl, ?_⟩) ?_
    rotate_left
    · intro w
      go_simp
      (first | done | exact rfl)
    simp only [Act.put, List.setIfInBounds_toArray, List.set_cons_zero, List.set_cons_succ]
    refine wpAny_done (by kernel_rfl) ?_ _
    have f6 := heap_frozen Hb1.out 6
    have f7 := heap_frozen Hb1.out 7
    have f8 := heap_frozen Hb1.out 8
    have f9 := heap_frozen Hb1.out 9
    obtain ⟨_, _, _, _, _, _, d6, d7, d8, d9⟩ := Hb1.out.at
    simp only [Nat.zero_add] at d6 d7 d8 d9
    go_wp2_with fail
    go_ret
    exact Hfin.out _ Hx1.out Hb1.out _
  · cases r2
    · clear Hobj
      go_enter Tryz.func159, Tryz.ntmps159
      go_wp2_with fail
      refine wp_region_anyX (by kernel_rfl) ?_
      refine any_val (i := 1) (v := ?_) (some 7) #[false, true, false, false, false, false, false, false, false, false, false, false, false, false, false, false, false, false, false] rfl rfl rfl (by kernel_rfl) (by kernel_rfl) (by kernel_rfl) (fun _ _ _ h => h) (Or.inl ⟨by rfl, ?_⟩) ?_
      rotate_left
      · intro w
        go_simp
        (first | done | exact rfl)
      simp only [Act.put, List.setIfInBounds_toArray, List.set_cons_zero, List.set_cons_succ]
      refine wpAny_ready (rs := [0]) (by kernel_rfl) (by simp) (AllReady.cons rfl (fun K hK => ?_) AllReady.nil)
      go_simp
      refine hK _ _ ?_
      clear hK K
      refine wpAny_ready (rs := [2]) (by kernel_rfl) (by simp) (AllReady.cons rfl (fun K hK => ?_) AllReady.nil)
      go_simp
      refine Hbr.out.mono ?_
      rintro e w1 ⟨rfl, hb1, hg1⟩
      obtain ⟨hx1, hc1⟩ := Hbox.out w1 hg1
      have Hx1 := Lib.hid hx1
      have Hb1 := Lib.hid hb1
      have c7 := hb1.at.c7
      simp only [Nat.zero_add] at c7
      clear hb1 hg1 hx1
      refine hK _ _ ?_
      clear hK K
      refine any_val (i := 3) (v := ?_) (some 9) #[true, true, true, true, false, false, false, false, false, false, false, false, false, false, false, false, false, false, false] rfl rfl rfl (by kernel_rfl) (by kernel_rfl) (by kernel_rfl) (fun _ _ _ h => h) (Or.inl ⟨by rfl, ?_⟩) ?_
      rotate_left
      · intro w
        go_simp
        (first | done | exact rfl)
      simp only [Act.put, List.setIfInBounds_toArray, List.set_cons_zero, List.set_cons_succ]
      refine any_val (i := 4) (v := ?_) (some 10) #[true, true, true, true, true, false, false, false, false, false, false, false, false, false, false, false, false, false, false] rfl rfl rfl (by kernel_rfl) (by kernel_rfl) (by kernel_rfl) (fun _ _ _ h => h) (Or.inl ⟨by rfl, ?_⟩) ?_
      rotate_left
      · intro w
        go_simp
        (first | done | exact rfl)
      simp only [Act.put, List.setIfInBounds_toArray, List.set_cons_zero, List.set_cons_succ]
      refine any_val (i := 5) (v := ?_) (some 11) #[true, true, true, true, true, true, false, false, false, false, false, false, false, false, false, false, false, false, false] rfl rfl rfl (by kernel_rfl) (by kernel_rfl) (by kernel_rfl) (fun _ _ _ h => h) (Or.inl ⟨by rfl, ?_⟩) ?_
      rotate_left
      · intro w
        go_simp
        (first | done | exact rfl)
      simp only [Act.put, List.setIfInBounds_toArray, List.set_cons_zero, List.set_cons_succ]
      refine any_val (i := 6) (v := ?_) (some 12) #[true, true, true, true, true, true, true, false, false, false, false, false, false, false, false, false, false, false, false] rfl rfl rfl (by kernel_rfl) (by kernel_rfl) (by kernel_rfl) (fun _ _ _ h => h) (Or.inl ⟨by rfl, ?_⟩) ?_
      rotate_left
      · intro w
        go_simp
        (first | done | exact rfl)
      simp only [Act.put, List.setIfInBounds_toArray, List.set_cons_zero, List.set_cons_succ]
      refine wpAny_ready (rs := [7]) (by kernel_rfl) (by simp) (AllReady.cons rfl (fun K hK => ?_) AllReady.nil)
      go_simp
      refine hK _ _ ?_
      clear hK K
      refine wpAny_ready (rs := [8]) (by kernel_rfl) (by simp) (AllReady.cons rfl (fun K hK => ?_) AllReady.nil)
      go_simp
      refine (Htur.out _ Hx1.out).mono ?_
      rintro e w2 ⟨v2, rfl, hs2, hx2⟩
      have hsl := hs2.any
      obtain ⟨Av, capv, e2⟩ := hsl.len
      rw [List.length_map] at e2
      subst e2
      have Hx2 := Lib.hid (Hx1.out.trans hx2)
      have Hb2 := Lib.hid (Hb1.out.ext hx2)
      have hc2 := hx2.cell hc1
      have Hsl := Lib.hid hsl
      clear hs2 hsl hx2 c7 hc1
      refine hK _ _ ?_
      clear hK K
      refine wpAny_ready (rs := [9]) (by kernel_rfl) (by simp) (AllReady.cons rfl (fun K hK => ?_) AllReady.nil)
      go_simp
      refine (Hdif.out _ _ Hsl.out).mono ?_
      rintro e w3 ⟨rfl, hx3⟩
      have Hx3 := Lib.hid (Hx2.out.trans hx3)
      have Hb3 := Lib.hid (Hb2.out.ext hx3)
      have hc3 := hx3.cell hc2
      obtain ⟨b0, b1, b2, b3, b4, b5, b6, b7, b8, b9⟩ := Hb3.out.at
      simp only [Nat.zero_add] at b0 b1 b2 b3 b4 b5 b6 b7 b8 b9
      clear hx3 hc2
      refine hK _ _ ?_
      clear hK K
      refine any_val (i := 10) (v := ?_) (some 16) #[true, true, true, true, true, true, true, true, true, true, true, false, false, false, false, false, false, false, false] rfl rfl rfl (by kernel_rfl) (by kernel_rfl) (by kernel_rfl) (fun _ _ _ h => h) (Or.inl ⟨by rfl, ?_⟩) ?_
      rotate_left
      · intro w
        go_simp
        (first | done | exact rfl)
      simp only [Act.put, List.setIfInBounds_toArray, List.set_cons_zero, List.set_cons_succ]
      refine any_val (i := 11) (v := ?_) (some 17) #[true, true, true, true, true, true, true, true, true, true, true, true, false, false, false, false, false, false, false] rfl rfl rfl (by kernel_rfl) (by kernel_rfl) (by kernel_rfl) (fun _ _ _ h => h) (Or.inl ⟨by rfl, ?_⟩) ?_
      rotate_left
      · intro w
        go_simp
        (first | done | exact rfl)
      simp only [Act.put, List.setIfInBounds_toArray, List.set_cons_zero, List.set_cons_succ]
      refine any_val (i := 12) (v := undef) (some 18) #[true, true, true, true, true, true, true, true, true, true, true, true, true, false, false, false, false, false, false] rfl rfl rfl (by kernel_rfl) (by kernel_rfl) (by kernel_rfl) (fun _ _ _ h => h) (Or.inr ⟨by rfl, rfl⟩) ?_
      simp only [Act.put, List.setIfInBounds_toArray, List.set_cons_zero, List.set_cons_succ]
      refine any_val (i := 13) (v := undef) (some 19) #[true, true, true, true, true, true, true, true, true, true, true, true, true, true, false, false, false, false, false] rfl rfl rfl (by kernel_rfl) (by kernel_rfl) (by kernel_rfl) (fun _ _ _ h => h) (Or.inr ⟨by rfl, rfl⟩) ?_
      simp only [Act.put, List.setIfInBounds_toArray, List.set_cons_zero, List.set_cons_succ]
      refine any_val (i := 14) (v := undef) (some 20) #[true, true, true, true, true, true, true, true, true, true, true, true, true, true, true, false, false, false, false] rfl rfl rfl (by kernel_rfl) (by kernel_rfl) (by kernel_rfl) (fun _ _ _ h => h) (Or.inr ⟨by rfl, rfl⟩) ?_
      simp only [Act.put, List.setIfInBounds_toArray, List.set_cons_zero, List.set_cons_succ]
      refine any_val (i := 15) (v := undef) (some 21) #[true, true, true, true, true, true, true, true, true, true, true, true, true, true, true, true, false, false, false] rfl rfl rfl (by kernel_rfl) (by kernel_rfl) (by kernel_rfl) (fun _ _ _ h => h) (Or.inr ⟨by rfl, rfl⟩) ?_
      simp only [Act.put, List.setIfInBounds_toArray, List.set_cons_zero, List.set_cons_succ]
      refine any_val (i := 16) (v := undef) (some 22) #[true, true, true, true, true, true, true, true, true, true, true, true, true, true, true, true, true, false, false] rfl rfl rfl (by kernel_rfl) (by kernel_rfl) (by kernel_rfl) (fun _ _ _ h => h) (Or.inr ⟨by rfl, rfl⟩) ?_
      simp only [Act.put, List.setIfInBounds_toArray, List.set_cons_zero, List.set_cons_succ]
      refine any_val (i := 17) (v := ?_) (some 23) #[true, true, true, true, true, true, true, true, true, true, true, true, true, true, true, true, true, true, false] rfl rfl rfl (by kernel_rfl) (by kernel_rfl) (by kernel_rfl) (fun _ _ _ h => h) (Or.inl ⟨by rfl, ?_⟩) ?_
      rotate_left
      · intro w
        go_simp
        (first | done | exact rfl)
      simp only [Act.put, List.setIfInBounds_toArray, List.set_cons_zero, List.set_cons_succ]
      refine any_val (i := 18) (v := ?_) (some 5) #[true, true, true, true, true, true, true, true, true, true, true, true, true, true, true, true, true, true, true] rfl rfl rfl (by kernel_rfl) (by kernel_rfl) (by kernel_rfl) (fun _ _ _ h => h) (Or.inl ⟨by rfl, ?_⟩) ?_
      rotate_left
      · intro w
        go_simp
        (first | done | exact rfl)
      simp only [Act.put, List.setIfInBounds_toArray, List.set_cons_zero, List.set_cons_succ]
      refine wpAny_done (by kernel_rfl) ?_ _
      have f6 := heap_frozen Hb3.out 6
      have f7 := heap_frozen Hb3.out 7
      have f8 := heap_frozen Hb3.out 8
      have f9 := heap_frozen Hb3.out 9
      obtain ⟨_, _, _, _, _, _, d6, d7, d8, d9⟩ := Hb3.out.at
      simp only [Nat.zero_add] at d6 d7 d8 d9
      go_wp2_with fail
      go_ret
      exact Hfin.out _ Hx3.out Hb3.out _
    · skip
      go_enter Tryz.func159, Tryz.ntmps159
      go_wp2_with fail
      refine wp_region_anyX (by kernel_rfl) ?_
      refine any_val (i := 1) (v := ?_) (some 7) #[false, true, false, false, false, false, false, false, false, false, false, false, false, false, false, false, false, false, false] rfl rfl rfl (by kernel_rfl) (by kernel_rfl) (by kernel_rfl) (fun _ _ _ h => h) (Or.inl ⟨by rfl, ?_⟩) ?_
      rotate_left
      · intro w
        go_simp
        (first | done | exact rfl)
      simp only [Act.put, List.setIfInBounds_toArray, List.set_cons_zero, List.set_cons_succ]
      refine wpAny_ready (rs := [0]) (by kernel_rfl) (by simp) (AllReady.cons rfl (fun K hK => ?_) AllReady.nil)
      go_simp
      refine hK _ _ ?_
      clear hK K
      refine wpAny_ready (rs := [2]) (by kernel_rfl) (by simp) (AllReady.cons rfl (fun K hK => ?_) AllReady.nil)
      go_simp
      refine Hbr.out.mono ?_
      rintro e w1 ⟨rfl, hb1, hg1⟩
      obtain ⟨hx1, hc1⟩ := Hbox.out w1 hg1
      have Hx1 := Lib.hid hx1
      have Hb1 := Lib.hid hb1
      have c7 := hb1.at.c7
      simp only [Nat.zero_add] at c7
      clear hb1 hg1 hx1
      refine hK _ _ ?_
      clear hK K
      refine any_val (i := 3) (v := ?_) (some 9) #[true, true, true, true, false, false, false, false, false, false, false, false, false, false, false, false, false, false, false] rfl rfl rfl (by kernel_rfl) (by kernel_rfl) (by kernel_rfl) (fun _ _ _ h => h) (Or.inl ⟨by rfl, ?_⟩) ?_
      rotate_left
      · intro w
        go_simp
        (first | done | exact rfl)
      simp only [Act.put, List.setIfInBounds_toArray, List.set_cons_zero, List.set_cons_succ]
      refine any_val (i := 4) (v := ?_) (some 10) #[true, true, true, true, true, false, false, false, false, false, false, false, false, false, false, false, false, false, false] rfl rfl rfl (by kernel_rfl) (by kernel_rfl) (by kernel_rfl) (fun _ _ _ h => h) (Or.inl ⟨by rfl, ?_⟩) ?_
      rotate_left
      · intro w
        go_simp
        (first | done | exact rfl)
      simp only [Act.put, List.setIfInBounds_toArray, List.set_cons_zero, List.set_cons_succ]
      refine any_val (i := 5) (v := ?_) (some 11) #[true, true, true, true, true, true, false, false, false, false, false, false, false, false, false, false, false, false, false] rfl rfl rfl (by kernel_rfl) (by kernel_rfl) (by kernel_rfl) (fun _ _ _ h => h) (Or.inl ⟨by rfl, ?_⟩) ?_
      rotate_left
      · intro w
        go_simp
        (first | done | exact rfl)
      simp only [Act.put, List.setIfInBounds_toArray, List.set_cons_zero, List.set_cons_succ]
      refine any_val (i := 6) (v := ?_) (some 12) #[true, true, true, true, true, true, true, false, false, false, false, false, false, false, false, false, false, false, false] rfl rfl rfl (by kernel_rfl) (by kernel_rfl) (by kernel_rfl) (fun _ _ _ h => h) (Or.inl ⟨by rfl, ?_⟩) ?_
      rotate_left
      · intro w
        go_simp
        (first | done | exact rfl)
      simp only [Act.put, List.setIfInBounds_toArray, List.set_cons_zero, List.set_cons_succ]
      refine wpAny_ready (rs := [7]) (by kernel_rfl) (by simp) (AllReady.cons rfl (fun K hK => ?_) AllReady.nil)
      go_simp
      refine hK _ _ ?_
      clear hK K
      refine wpAny_ready (rs := [8]) (by kernel_rfl) (by simp) (AllReady.cons rfl (fun K hK => ?_) AllReady.nil)
      go_simp
      refine (Htur.out _ Hx1.out).mono ?_
      rintro e w2 ⟨v2, rfl, hs2, hx2⟩
      have hsl := hs2.any
      obtain ⟨Av, capv, e2⟩ := hsl.len
      rw [List.length_map] at e2
      subst e2
      have Hx2 := Lib.hid (Hx1.out.trans hx2)
      have Hb2 := Lib.hid (Hb1.out.ext hx2)
      have hc2 := hx2.cell hc1
      have Hsl := Lib.hid hsl
      clear hs2 hsl hx2 c7 hc1
      refine hK _ _ ?_
      clear hK K
      refine wpAny_ready (rs := [9]) (by kernel_rfl) (by simp) (AllReady.cons rfl (fun K hK => ?_) AllReady.nil)
      go_simp
      refine (Hdif.out _ _ Hsl.out).mono ?_
      rintro e w3 ⟨rfl, hx3⟩
      have Hx3 := Lib.hid (Hx2.out.trans hx3)
      have Hb3 := Lib.hid (Hb2.out.ext hx3)
      have hc3 := hx3.cell hc2
      obtain ⟨b0, b1, b2, b3, b4, b5, b6, b7, b8, b9⟩ := Hb3.out.at
      simp only [Nat.zero_add] at b0 b1 b2 b3 b4 b5 b6 b7 b8 b9
      clear hx3 hc2
      refine hK _ _ ?_
      clear hK K
      refine any_val (i := 10) (v := ?_) (some 16) #[true, true, true, true, true, true, true, true, true, true, true, false, false, false, false, false, false, false, false] rfl rfl rfl (by kernel_rfl) (by kernel_rfl) (by kernel_rfl) (fun _ _ _ h => h) (Or.inl ⟨by rfl, ?_⟩) ?_
      rotate_left
      · intro w
        go_simp
        (first | done | exact rfl)
      simp only [Act.put, List.setIfInBounds_toArray, List.set_cons_zero, List.set_cons_succ]
      refine any_val (i := 11) (v := ?_) (some 17) #[true, true, true, true, true, true, true, true, true, true, true, true, false, false, false, false, false, false, false] rfl rfl rfl (by kernel_rfl) (by kernel_rfl) (by kernel_rfl) (fun _ _ _ h => h) (Or.inl ⟨by rfl, ?_⟩) ?_
      rotate_left
      · intro w
        go_simp
        (first | done | exact rfl)
      simp only [Act.put, List.setIfInBounds_toArray, List.set_cons_zero, List.set_cons_succ]
      refine any_val (i := 13) (v := ?_) (some 19) #[true, true, true, true, true, true, true, true, true, true, true, true, false, true, false, false, false, false, false] rfl rfl rfl (by kernel_rfl) (by kernel_rfl) (by kernel_rfl) (fun _ _ _ h => h) (Or.inl ⟨by rfl, ?_⟩) ?_
      rotate_left
      · intro w
        go_simp
        (first | done | exact rfl)
      simp only [Act.put, List.setIfInBounds_toArray, List.set_cons_zero, List.set_cons_succ]
      refine any_val (i := 14) (v := ?_) (some 20) #[true, true, true, true, true, true, true, true, true, true, true, true, false, true, true, false, false, false, false] rfl rfl rfl (by kernel_rfl) (by kernel_rfl) (by kernel_rfl) (fun _ _ _ h => h) (Or.inl ⟨by rfl, ?_⟩) ?_
      rotate_left
      · intro w
        go_simp
        (first | done | exact rfl)
      simp only [Act.put, List.setIfInBounds_toArray, List.set_cons_zero, List.set_cons_succ]
      refine wpAny_ready (rs := [12, 15]) (by kernel_rfl) (by simp) (AllReady.cons rfl (fun K hK => ?_) (AllReady.cons rfl (fun K hK => ?_) AllReady.nil))
      · go_simp
        refine hK _ _ ?_
        clear hK K
        refine wpAny_ready (rs := [15]) (by kernel_rfl) (by simp) (AllReady.cons rfl (fun K hK => ?_) AllReady.nil)
        go_simp
        refine hK _ _ ?_
        clear hK K
        refine wpAny_ready (rs := [16]) (by kernel_rfl) (by simp) (AllReady.cons rfl (fun K hK => ?_) AllReady.nil)
        go_simp
        refine (Hobj.out _ Hx3.out).mono ?_
        rintro e w4 ⟨rfl, hx4⟩
        have Hx4 := Lib.hid (Hx3.out.trans hx4)
        have Hb4 := Lib.hid (Hb3.out.ext hx4)
        clear hx4 b0 b1 b2 b3 b4 b5 b6 b7 b8 b9
        refine hK _ _ ?_
        clear hK K
        refine any_val (i := 17) (v := ?_) (some 23) #[true, true, true, true, true, true, true, true, true, true, true, true, true, true, true, true, true, true, false] rfl rfl rfl (by kernel_rfl) (by kernel_rfl) (by kernel_rfl) (fun _ _ _ h => h) (Or.inl ⟨by rfl, ?_⟩) ?_
        rotate_left
        · intro w
          go_simp
          (first | done | exact rfl)
        simp only [Act.put, List.setIfInBounds_toArray, List.set_cons_zero, List.set_cons_succ]
        refine any_val (i := 18) (v := ?_) (some 5) #[true, true, true, true, true, true, true, true, true, true, true, true, true, true, true, true, true, true, true] rfl rfl rfl (by kernel_rfl) (by kernel_rfl) (by kernel_rfl) (fun _ _ _ h => h) (Or.inl ⟨by rfl, ?_⟩) ?_
        rotate_left
        · intro w
          go_simp
          (first | done | exact rfl)
        simp only [Act.put, List.setIfInBounds_toArray, List.set_cons_zero, List.set_cons_succ]
        refine wpAny_done (by kernel_rfl) ?_ _
        have f6 := heap_frozen Hb4.out 6
        have f7 := heap_frozen Hb4.out 7
        have f8 := heap_frozen Hb4.out 8
        have f9 := heap_frozen Hb4.out 9
        obtain ⟨_, _, _, _, _, _, d6, d7, d8, d9⟩ := Hb4.out.at
        simp only [Nat.zero_add] at d6 d7 d8 d9
        go_wp2_with fail
        go_ret
        exact Hfin.out _ Hx4.out Hb4.out _
      · go_simp
        refine hK _ _ ?_
        clear hK K
        refine wpAny_ready (rs := [12]) (by kernel_rfl) (by simp) (AllReady.cons rfl (fun K hK => ?_) AllReady.nil)
        go_simp
        refine hK _ _ ?_
        clear hK K
        refine wpAny_ready (rs := [16]) (by kernel_rfl) (by simp) (AllReady.cons rfl (fun K hK => ?_) AllReady.nil)
        go_simp
        refine (Hobj.out _ Hx3.out).mono ?_
        rintro e w4 ⟨rfl, hx4⟩
        have Hx4 := Lib.hid (Hx3.out.trans hx4)
        have Hb4 := Lib.hid (Hb3.out.ext hx4)
        clear hx4 b0 b1 b2 b3 b4 b5 b6 b7 b8 b9
        refine hK _ _ ?_
        clear hK K
        refine any_val (i := 17) (v := ?_) (some 23) #[true, true, true, true, true, true, true, true, true, true, true, true, true, true, true, true, true, true, false] rfl rfl rfl (by kernel_rfl) (by kernel_rfl) (by kernel_rfl) (fun _ _ _ h => h) (Or.inl ⟨by rfl, ?_⟩) ?_
        rotate_left
        · intro w
          go_simp
          (first | done | exact rfl)
        simp only [Act.put, List.setIfInBounds_toArray, List.set_cons_zero, List.set_cons_succ]
        refine any_val (i := 18) (v := ?_) (some 5) #[true, true, true, true, true, true, true, true, true, true, true, true, true, true, true, true, true, true, true] rfl rfl rfl (by kernel_rfl) (by kernel_rfl) (by kernel_rfl) (fun _ _ _ h => h) (Or.inl ⟨by rfl, ?_⟩) ?_
        rotate_left
        · intro w
          go_simp
          (first | done | exact rfl)
        simp only [Act.put, List.setIfInBounds_toArray, List.set_cons_zero, List.set_cons_succ]
        refine wpAny_done (by kernel_rfl) ?_ _
        have f6 := heap_frozen Hb4.out 6
        have f7 := heap_frozen Hb4.out 7
        have f8 := heap_frozen Hb4.out 8
        have f9 := heap_frozen Hb4.out 9
        obtain ⟨_, _, _, _, _, _, d6, d7, d8, d9⟩ := Hb4.out.at
        simp only [Nat.zero_add] at d6 d7 d8 d9
        go_wp2_with fail
        go_ret
        exact Hfin.out _ Hx4.out Hb4.out _
end Go.Proofs.YtldnjnnhfeobdaaGreatDoor
/- Contract: the table of the rules. No condition. -/
namespace Go.Proofs.YtldnjnnhfeobdaaGreatDoor
set_option linter.all false
set_option linter.unusedSimpArgs false
set_option linter.unusedVariables false
open Go.RowKit Go.Shelf

def fn (n : Nat) : Value := .func (.func n) #[] #[]
def rulesV : Value := .agg #[.nilFunc, fn 155, fn 155, fn 156, fn 155, fn 155, fn 155, fn 155, fn 155, fn 157, fn 158, fn 157, fn 159, fn 160]
set_option maxRecDepth 100000 in
set_option maxHeartbeats 1000000 in
theorem rules_any (w : World) : Calls Tryz.prog 116 #[] w (Ret w rulesV) := by
  go_enter Tryz.func116, Tryz.ntmps116
  go_wp2_with fail
  exact bodyPost_ret (v := rulesV) (by simp [results, Tryz.results116, go_sem, rulesV, fn]) rfl ⟨rfl, ((Ext.refl _).alloc _)⟩
end Go.Proofs.YtldnjnnhfeobdaaGreatDoor
/- Plain functions on graphs: references, agreement, what is right, what is well-formed. No program. No condition. -/
namespace Go.Proofs.YtldnjnnhfeobdaaGreatDoor
set_option linter.all false
set_option linter.unusedSimpArgs false
set_option linter.unusedVariables false

def partEq (p q : Part) : Bool := p.name.toList == q.name.toList
def plainEqB (s t : Ty) : Bool := decide (s.kind = t.kind) && (decide (s.low = t.low) && (decide (s.high = t.high) && ((s.branded == t.branded) && (strEq s.brand t.brand && strEq s.opaq t.opaq))))
def agreeT (s t : Ty) : Bool := plainEqB s t && (eqF partEq s.parts t.parts && (eqF sameMethodB s.methods t.methods && eqF overEq s.overs t.overs))
def agN (g : Graph) (i j : Nat) : Bool := agreeT (getT g i) (getT g j)
/-! ### agreement is an equivalence -/
theorem strEq_iff {a b : ByteArray} : strEq a b = true ↔ a = b := by
  unfold strEq
  constructor
  · intro h; exact ba_toList_inj (by simpa using h)
  · rintro rfl; simp
/-- a test that is true where f agrees -/
structure ByF {α : Type} (p : α → α → Bool) : Prop where
  refl : ∀ x, p x x = true
  symm : ∀ x y, p x y = true → p y x = true
  trans : ∀ x y z, p x y = true → p y z = true → p x z = true
theorem ByF.eqF {α : Type} {p : α → α → Bool} (h : ByF p) : ByF (eqF p) :=
  ⟨fun xs => by induction xs with
    | nil => rfl
    | cons x xs ih => simp [YtldnjnnhfeobdaaGreatDoor.eqF, h.refl, ih],
   fun xs => by induction xs with
    | nil => intro ys hy; cases ys <;> simp_all [YtldnjnnhfeobdaaGreatDoor.eqF]
    | cons x xs ih =>
      intro ys hy
      cases ys with
      | nil => simp [YtldnjnnhfeobdaaGreatDoor.eqF] at hy
      | cons y ys =>
        simp only [YtldnjnnhfeobdaaGreatDoor.eqF, Bool.and_eq_true] at hy ⊢
        exact ⟨h.symm _ _ hy.1, ih _ hy.2⟩,
   fun xs => by induction xs with
    | nil => intro ys zs h1 h2; cases ys <;> simp_all [YtldnjnnhfeobdaaGreatDoor.eqF]
    | cons x xs ih =>
      intro ys zs h1 h2
      cases ys with
      | nil => simp [YtldnjnnhfeobdaaGreatDoor.eqF] at h1
      | cons y ys =>
        cases zs with
        | nil => simp [YtldnjnnhfeobdaaGreatDoor.eqF] at h2
        | cons z zs =>
          simp only [YtldnjnnhfeobdaaGreatDoor.eqF, Bool.and_eq_true] at h1 h2 ⊢
          exact ⟨h.trans _ _ _ h1.1 h2.1, ih _ _ h1.2 h2.2⟩⟩
theorem byF_strEq : ByF strEq := ⟨fun x => strEq_iff.2 rfl, fun x y h => strEq_iff.2 (strEq_iff.1 h).symm, fun x y z h1 h2 => strEq_iff.2 ((strEq_iff.1 h1).trans (strEq_iff.1 h2))⟩
theorem partEq_eq (p q : Part) : partEq p q = strEq p.name q.name := rfl
theorem overEq_eq (p q : Over) : overEq p q = (strEq p.name q.name && strEq p.proc q.proc) := rfl
theorem byF_part : ByF partEq :=
  ⟨fun x => byF_strEq.refl _, fun x y h => byF_strEq.symm _ _ h, fun x y z h1 h2 => byF_strEq.trans _ _ _ h1 h2⟩
theorem byF_over : ByF overEq :=
  ⟨fun x => by simp [overEq_eq, byF_strEq.refl], fun x y h => by
    simp only [overEq_eq, Bool.and_eq_true] at h ⊢
    exact ⟨byF_strEq.symm _ _ h.1, byF_strEq.symm _ _ h.2⟩, fun x y z h1 h2 => by
    simp only [overEq_eq, Bool.and_eq_true] at h1 h2 ⊢
    exact ⟨byF_strEq.trans _ _ _ h1.1 h2.1, byF_strEq.trans _ _ _ h1.2 h2.2⟩⟩
theorem sameMethodB_iff {a b : Method} : sameMethodB a b = true ↔ a.name = b.name ∧ a.proc = b.proc ∧ a.args.length = b.args.length ∧ decide (a.result < 0) = decide (b.result < 0) ∧ eqF strEq a.raises b.raises = true := by
  simp only [sameMethodB, Bool.and_eq_true, strEq_iff, decide_eq_true_eq, beq_iff_eq]
theorem byF_method : ByF sameMethodB :=
  ⟨fun x => sameMethodB_iff.2 ⟨rfl, rfl, rfl, rfl, byF_strEq.eqF.refl _⟩, fun x y h => by
    obtain ⟨h1, h2, h3, h4, h5⟩ := sameMethodB_iff.1 h
    exact sameMethodB_iff.2 ⟨h1.symm, h2.symm, h3.symm, h4.symm, byF_strEq.eqF.symm _ _ h5⟩, fun x y z h k => by
    obtain ⟨h1, h2, h3, h4, h5⟩ := sameMethodB_iff.1 h
    obtain ⟨k1, k2, k3, k4, k5⟩ := sameMethodB_iff.1 k
    exact sameMethodB_iff.2 ⟨h1.trans k1, h2.trans k2, h3.trans k3, h4.trans k4, byF_strEq.eqF.trans _ _ _ h5 k5⟩⟩
theorem plainEqB_iff {s t : Ty} : plainEqB s t = true ↔ s.kind = t.kind ∧ s.low = t.low ∧ s.high = t.high ∧ s.branded = t.branded ∧ s.brand = t.brand ∧ s.opaq = t.opaq := by
  simp only [plainEqB, Bool.and_eq_true, strEq_iff, decide_eq_true_eq, beq_iff_eq]
theorem agreeT_iff {s t : Ty} : agreeT s t = true ↔ plainEqB s t = true ∧ eqF partEq s.parts t.parts = true ∧ eqF sameMethodB s.methods t.methods = true ∧ eqF overEq s.overs t.overs = true := by
  simp only [agreeT, Bool.and_eq_true]
theorem byF_agree : ByF agreeT :=
  ⟨fun x => agreeT_iff.2 ⟨plainEqB_iff.2 ⟨rfl, rfl, rfl, rfl, rfl, rfl⟩, byF_part.eqF.refl _, byF_method.eqF.refl _, byF_over.eqF.refl _⟩, fun x y h => by
    obtain ⟨h1, h2, h3, h4⟩ := agreeT_iff.1 h
    obtain ⟨p1, p2, p3, p4, p5, p6⟩ := plainEqB_iff.1 h1
    exact agreeT_iff.2 ⟨plainEqB_iff.2 ⟨p1.symm, p2.symm, p3.symm, p4.symm, p5.symm, p6.symm⟩, byF_part.eqF.symm _ _ h2, byF_method.eqF.symm _ _ h3, byF_over.eqF.symm _ _ h4⟩, fun x y z h k => by
    obtain ⟨h1, h2, h3, h4⟩ := agreeT_iff.1 h
    obtain ⟨k1, k2, k3, k4⟩ := agreeT_iff.1 k
    obtain ⟨p1, p2, p3, p4, p5, p6⟩ := plainEqB_iff.1 h1
    obtain ⟨q1, q2, q3, q4, q5, q6⟩ := plainEqB_iff.1 k1
    exact agreeT_iff.2 ⟨plainEqB_iff.2 ⟨p1.trans q1, p2.trans q2, p3.trans q3, p4.trans q4, p5.trans q5, p6.trans q6⟩, byF_part.eqF.trans _ _ _ h2 k2, byF_method.eqF.trans _ _ _ h3 k3, byF_over.eqF.trans _ _ _ h4 k4⟩⟩
theorem agN_eqOn (g : Graph) (n : Nat) : EqOn n (agN g) :=
  ⟨fun i _ => byF_agree.refl _, fun i j _ _ h => byF_agree.symm _ _ h, fun i j k _ _ _ h1 h2 => byF_agree.trans _ _ _ h1 h2⟩
theorem eqF_length {α : Type} {p : α → α → Bool} : ∀ {xs ys : List α}, eqF p xs ys = true → xs.length = ys.length
  | [], [], _ => rfl
  | [], y :: ys, h => by simp [eqF] at h
  | x :: xs, [], h => by simp [eqF] at h
  | x :: xs, y :: ys, h => by
    simp only [eqF, Bool.and_eq_true] at h
    simp [eqF_length h.2]
theorem refsM_length {a b : Method} (h : sameMethodB a b = true) : (refsM a).length = (refsM b).length := by
  obtain ⟨_, _, h3, h4, _⟩ := sameMethodB_iff.1 h
  have h5 : (0 ≤ a.result) ↔ (0 ≤ b.result) := by
    have : (a.result < 0) ↔ (b.result < 0) := by simpa using h4
    omega
  unfold refsM
  by_cases h6 : 0 ≤ a.result
  · simp [h6, h5.1 h6, h3]
  · have h7 : ¬ 0 ≤ b.result := fun h => h6 (h5.2 h)
    simp [h6, h7, h3]
theorem flatM_length : ∀ {xs ys : List Method}, eqF sameMethodB xs ys = true → (xs.flatMap refsM).length = (ys.flatMap refsM).length
  | [], [], _ => rfl
  | [], y :: ys, h => by simp [eqF] at h
  | x :: xs, [], h => by simp [eqF] at h
  | x :: xs, y :: ys, h => by
    simp only [eqF, Bool.and_eq_true] at h
    have h1 := refsM_length h.1
    have h2 := flatM_length h.2
    rw [List.flatMap_cons, List.flatMap_cons, List.length_append, List.length_append, h1, h2]
theorem refsL_length {s t : Ty} (h : agreeT s t = true) : (refsL s).length = (refsL t).length := by
  obtain ⟨h1, h2, h3, _⟩ := agreeT_iff.1 h
  obtain ⟨p1, _⟩ := plainEqB_iff.1 h1
  have e1 := eqF_length h2
  have e2 := flatM_length h3
  have e3 : (refsS s).length = (refsS t).length := by unfold refsS; rw [p1]; cases hasSuperB t.kind <;> rfl
  unfold refsL
  rw [List.length_append, List.length_append, List.length_append, List.length_append, List.length_map, List.length_map]
  omega

/-! ### what is right -/
def zeroB (t : Ty) : Bool := (decide (t.low = 0) && (decide (t.high = 0) && (!t.branded && (t.brand.toList.isEmpty && (t.opaq.toList.isEmpty && decide (t.super = 0)))))) && decide (t.parts.length + t.methods.length + t.overs.length = 0)
def rightB (g : Graph) (t : Ty) : Bool :=
  if t.kind = 3 then rangedB g t && zeroB (noRange t)
  else if t.kind = 9 ∨ t.kind = 11 then heldB g t && zeroB (noParts t)
  else if t.kind = 10 then recordedB g t && zeroB (noParts t)
  else if t.kind = 12 then objectsB g t && zeroB (noObject t)
  else if t.kind = 13 then opaqueB g t && zeroB (noOpaque t)
  else decide (1 ≤ t.kind ∧ t.kind < 14) && zeroB t
def superN (g : Graph) (i : Nat) : Nat := (getT g i).super.toNat
/-- within n steps up from a type one comes to i -/
def cycN (g : Graph) (i : Nat) : Nat → Nat → Bool
  | 0, _ => false
  | n + 1, at_ => hasSuperB (getT g at_).kind && (decide (superN g at_ = i) || cycN g i n (superN g at_))
/-- what is wrong with a graph -/
def checkG (g : Graph) : Int × Int :=
  if 400 < g.length then (400, 30) else
  match g.findIdx? fun t => !rightB g t with
  | some i => ((i : Int), 30)
  | none => match (List.range g.length).find? fun i => cycN g i g.length i with
    | some i => ((i : Int), 30)
    | none => (0, 0)
structure WF (g : Graph) : Prop where
  len : g.length ≤ 400
  right : ∀ t ∈ g, rightB g t = true
  cyc : ∀ i, i < g.length → cycN g i g.length i = false
theorem checkG_ok {g : Graph} : (checkG g).2 = 0 ↔ WF g := by
  unfold checkG
  by_cases h1 : 400 < g.length
  · rw [if_pos h1]
    exact ⟨fun h => by simp at h, fun h => by have := h.len; omega⟩
  · rw [if_neg h1]
    cases h2 : g.findIdx? fun t => !rightB g t with
    | some i =>
      rw [List.findIdx?_eq_some_iff_getElem] at h2
      obtain ⟨hi, h3, _⟩ := h2
      refine ⟨fun h => by simp at h, fun h => ?_⟩
      have := h.right _ (List.getElem_mem hi)
      simp [this] at h3
    | none =>
      rw [List.findIdx?_eq_none_iff] at h2
      cases h3 : (List.range g.length).find? fun i => cycN g i g.length i with
      | some i =>
        have h4 := List.find?_some h3
        have h5 := List.mem_of_find?_eq_some h3
        refine ⟨fun h => by simp at h, fun h => ?_⟩
        have := h.cyc i (by simpa using h5)
        simp [this] at h4
      | none =>
        rw [List.find?_eq_none] at h3
        exact ⟨fun _ => ⟨by omega, fun t ht => by simpa using h2 t ht, fun i hi => by simpa using h3 i (by simpa using hi)⟩, fun _ => rfl⟩
theorem checkG_err {g : Graph} : (checkG g).2 = 0 ∨ (checkG g).2 = 30 := by
  unfold checkG
  split
  · exact .inr rfl
  · split
    · exact .inr rfl
    · split
      · exact .inr rfl
      · exact .inl rfl
theorem checkG_zero {g : Graph} (h : (checkG g).2 = 0) : checkG g = (0, 0) := by
  unfold checkG at h ⊢
  split at h
  · simp at h
  · rename_i h1
    rw [if_neg h1]
    split at h
    · simp at h
    · split at h
      · simp at h
      · rfl
theorem zeroB_lens {t : Ty} (h : zeroB t = true) : t.parts = [] ∧ t.methods = [] ∧ t.overs = [] := by
  simp only [zeroB, Bool.and_eq_true, decide_eq_true_eq] at h
  obtain ⟨_, h⟩ := h
  exact ⟨List.eq_nil_of_length_eq_zero (by omega), List.eq_nil_of_length_eq_zero (by omega), List.eq_nil_of_length_eq_zero (by omega)⟩
theorem brandedB_parts {n : Nat} {t : Ty} (h : brandedB n t = true) : ∀ p ∈ t.parts, 0 ≤ p.type ∧ p.type < n := by
  simp only [brandedB, Bool.and_eq_true, Bool.not_eq_true', List.any_eq_false] at h
  intro p hp
  have := h.2.2 p hp
  simp only [partBad, Bool.not_eq_true', Bool.not_eq_false] at this
  exact hasB_iff.1 (by simpa using this)
theorem differentB_le {l : List ByteArray} {k : Int} (h : differentB l k = true) : (l.length : Int) ≤ k := by
  simp only [differentB, Bool.and_eq_true, decide_eq_true_eq] at h; exact h.2
theorem overB_rng {g : Graph} {i : Int} {l : List Int} (h : overB g i l = true) : 0 ≤ i ∧ i < g.length := by
  simp only [overB, Bool.and_eq_true] at h; exact hasB_iff.1 h.1
theorem right_fine {g : Graph} {t : Ty} (h : rightB g t = true) : Fine g.length t := by
  have hk13 : hasSuperB t.kind = true → t.kind = 12 ∨ t.kind = 13 := by simp [hasSuperB]
  unfold rightB at h
  split at h
  · rename_i hk
    simp only [Bool.and_eq_true] at h
    obtain ⟨z1, z2, z3⟩ := zeroB_lens h.2
    have z1 : t.parts = [] := z1
    have z2 : t.methods = [] := z2
    have z3 : t.overs = [] := z3
    exact ⟨fun hs => by have := hk13 hs; omega, by simp [z1], by simp [z2], by simp [z2], by simp [z1], by simp [z2], by simp [z3], by simp [z2], by simp [z2], by omega⟩
  split at h
  · rename_i hk
    simp only [Bool.and_eq_true] at h
    obtain ⟨h1, h2⟩ := h
    obtain ⟨_, z2, z3⟩ := zeroB_lens h2
    have z2 : t.methods = [] := z2
    have z3 : t.overs = [] := z3
    simp only [heldB, Bool.and_eq_true, decide_eq_true_eq] at h1
    exact ⟨fun hs => by have := hk13 hs; omega, brandedB_parts h1.1, by simp [z2], by simp [z2], by omega, by simp [z2], by simp [z3], by simp [z2], by simp [z2], by omega⟩
  split at h
  · rename_i hk
    simp only [Bool.and_eq_true] at h
    obtain ⟨h1, h2⟩ := h
    obtain ⟨_, z2, z3⟩ := zeroB_lens h2
    have z2 : t.methods = [] := z2
    have z3 : t.overs = [] := z3
    simp only [recordedB, Bool.and_eq_true, decide_eq_true_eq] at h1
    have hd := differentB_le h1.2.2
    simp at hd
    exact ⟨fun hs => by have := hk13 hs; omega, brandedB_parts h1.1, by simp [z2], by simp [z2], by omega, by simp [z2], by simp [z3], by simp [z2], by simp [z2], by omega⟩
  split at h
  · rename_i hk
    simp only [Bool.and_eq_true] at h
    obtain ⟨h1, h2⟩ := h
    simp only [objectsB, Bool.and_eq_true] at h1
    obtain ⟨b1, b2, b3⟩ := h1
    have hd := differentB_le b2
    simp only [objectB, Bool.and_eq_true, Bool.not_eq_true', Bool.or_eq_false_iff, List.any_eq_false] at b3
    obtain ⟨⟨c1, c2⟩, c3, c4, c5⟩ := b3
    have hm := differentB_le c3
    have ho := differentB_le c4
    simp at hd hm ho
    have hsig : ∀ m ∈ t.methods, sigB g.length m = true := by
      intro m hmm
      have := c1 m hmm
      simp only [badMethod, Bool.or_eq_true, Bool.not_eq_true', not_or, Bool.not_eq_false] at this
      exact this.1
    have hsig' : ∀ m ∈ t.methods, m.args.length ≤ 6 ∧ m.raises.length ≤ 6 ∧ (m.result = -1 ∨ 0 ≤ m.result ∧ m.result < g.length) ∧ ∀ a ∈ m.args, 0 ≤ a ∧ a < g.length := by
      intro m hmm
      have := hsig m hmm
      simp only [sigB, Bool.and_eq_true, Bool.or_eq_true, decide_eq_true_eq, Bool.not_eq_true', List.any_eq_false] at this
      obtain ⟨⟨d1, d2, d3, d4⟩, _⟩ := this
      refine ⟨d1, d2, d3.imp id fun h => hasB_iff.1 h, fun a ha => hasB_iff.1 ?_⟩
      have := d4 a ha
      simpa using this
    have hs := overB_rng c5
    exact ⟨fun _ => hs, brandedB_parts b1, fun m h => (hsig' m h).2.2.2, fun m h => (hsig' m h).2.2.1, by omega, by omega, by omega, fun m h => (hsig' m h).1, fun m h => (hsig' m h).2.1, by omega⟩
  split at h
  · rename_i hk
    simp only [Bool.and_eq_true] at h
    obtain ⟨h1, h2⟩ := h
    obtain ⟨z1, z2, z3⟩ := zeroB_lens h2
    have z1 : t.parts = [] := z1
    have z2 : t.methods = [] := z2
    have z3 : t.overs = [] := z3
    simp only [opaqueB, Bool.and_eq_true] at h1
    have hs := overB_rng h1.2
    exact ⟨fun _ => hs, by simp [z1], by simp [z2], by simp [z2], by simp [z1], by simp [z2], by simp [z3], by simp [z2], by simp [z2], by omega⟩
  · simp only [Bool.and_eq_true, decide_eq_true_eq] at h
    obtain ⟨h1, h2⟩ := h
    obtain ⟨z1, z2, z3⟩ := zeroB_lens h2
    exact ⟨fun hs => by have := hk13 hs; omega, by simp [z1], by simp [z2], by simp [z2], by simp [z1], by simp [z2], by simp [z3], by simp [z2], by simp [z2], h1⟩

theorem WF.fine {g : Graph} (h : WF g) {t : Ty} (ht : t ∈ g) : Fine g.length t := right_fine (h.right t ht)
theorem WF.abs {g : Graph} (h : WF g) : AbsGraph g.length (agN g) (refsN g) :=
  ⟨agN_eqOn g _, fun i hi r hr => by
    obtain ⟨x, hx, rfl⟩ := List.mem_map.1 hr
    have := (h.fine (getT_mem hi)).refs x hx
    omega, fun i j hi hj hij => by
    unfold refsN
    rw [List.length_map, List.length_map]
    exact refsL_length hij⟩
theorem refsN_cast {g : Graph} (h : WF g) {i : Nat} (hi : i < g.length) : (refsN g i).map (fun (n : Nat) => (n : Int)) = refsL (getT g i) := by
  unfold refsN
  rw [List.map_map]
  conv => rhs; rw [← List.map_id (refsL (getT g i))]
  refine List.map_congr_left fun r hr => ?_
  have := (h.fine (getT_mem hi)).refs r hr
  simp; omega
def classesG (g : Graph) : List Nat := classesN (agN g) (refsN g) g.length
end Go.Proofs.YtldnjnnhfeobdaaGreatDoor
/- Contract: the rule of a type's kind. Conditions: lengths below 2^20. -/
namespace Go.Proofs.YtldnjnnhfeobdaaGreatDoor
set_option linter.all false
set_option linter.unusedSimpArgs false
set_option linter.unusedVariables false
open Go.RowKit Go.Shelf

/-- what of two types is plain is the same -/
def plainB7 (k l h : Int) (b : Bool) (br op : ByteArray) (su k2 l2 h2 : Int) (b2 : Bool) (br2 op2 : ByteArray) (su2 : Int) : Bool :=
  decide (k = k2) && (decide (l = l2) && (decide (h = h2) && ((b == b2) && (strEq br br2 && (strEq op op2 && decide (su = su2))))))
theorem eql_plain (k l h : Int) (b : Bool) (br op : ByteArray) (su k2 l2 h2 : Int) (b2 : Bool) (br2 op2 : ByteArray) (su2 : Int) (w : World) :
    (binOp .eql 109 (.agg #[.int .u8 k, .int .i64 l, .int .i64 h, .bool b, .string br, .string op, .int .i64 su]) (.agg #[.int .u8 k2, .int .i64 l2, .int .i64 h2, .bool b2, .string br2, .string op2, .int .i64 su2])).run Tryz.prog w = .ok (.bool (plainB7 k l h b br op su k2 l2 h2 b2 br2 op2 su2)) w := by
  have u9 := Tryz.underlying9
  have a9 := Tryz.isAgg9
  have z9 := Tryz.sizeOf9
  have u3 := Tryz.underlying3
  have a3 := Tryz.isAgg3
  have z3 := Tryz.sizeOf3
  have u4 := Tryz.underlying4
  have a4 := Tryz.isAgg4
  have z4 := Tryz.sizeOf4
  have u5 := Tryz.underlying5
  have a5 := Tryz.isAgg5
  have z5 := Tryz.sizeOf5
  have hS : Tryz.prog.underlying 109 = some (.struct (Tryz.prog.fieldsOf 109)) := by kernel_rfl
  have hp : Tryz.prog.stoodInHeld 109 = false := by kernel_rfl
  rw [run_eql_struct, show (10000 : Nat) = 9999 + 1 from rfl, run_equalIn_agg w 9999 109 _ _ hS hp]
  simp only [Program.fieldsOf, Tryz.underlying109]
  go_simp
  unfold plainB7 strEq
  by_cases e1 : k = k2 <;> by_cases e2 : l = l2 <;> by_cases e3 : h = h2 <;> by_cases e4 : b = b2 <;> by_cases e5 : br.toList = br2.toList <;> by_cases e6 : op.toList = op2.toList <;> by_cases e7 : su = su2 <;> simp [e1, e2, e3, e4, e5, e6, e7]
theorem guard109 (op : BinOp) (x y : Operand) (xs ys : Array Value) (w : World) : (eqGuard op 109 x y (.agg xs) (.agg ys)).run Tryz.prog w = .ok () w := run_eqGuard_agg w op 109 x y xs ys (by kernel_rfl)

theorem zeroB_plain (t' : Ty) : zeroB t' = (plainB7 t'.kind t'.low t'.high t'.branded t'.brand t'.opaq t'.super t'.kind 0 0 false ByteArray.empty ByteArray.empty 0 && decide (t'.parts.length + t'.methods.length + t'.overs.length = 0)) := by
  unfold zeroB plainB7
  rw [strEq_empty, strEq_empty]
  cases t'.branded <;> simp
theorem heap_alloc_self (w : World) (o : Obj) : (w.alloc o).heap[w.heap.size]? = some o := by simp only [World.alloc]; exact Array.getElem?_push_size
set_option maxRecDepth 100000 in
set_option maxHeartbeats 8000000 in
theorem right_rule (f : Nat) (ok : Graph → Ty → Bool) (aft : Ty → Ty) (hR : Rule f ok aft) (w : World) (gv : Value) (g : Graph) (t : Ty) (vp vm vo : Value) (hg : Sl tyE w gv g) (hgn : g.length ≤ 1048576) (hG : Glob w) (hof : TyOf w t vp vm vo) (hs : TySmall t)
    (k : Nat) (hk : t.kind = k) (hk1 : 1 ≤ k) (hk2 : k < 14) (hcell : rulesV.cells[k]? = some (fn f)) (hcf : ∀ args w', (callFunc f args).run Tryz.prog w' = .ok (.enter f args) w') (hl1 : (aft t).parts.length ≤ 1048576) (hl2 : (aft t).methods.length ≤ 1048576) (hl3 : (aft t).overs.length ≤ 1048576) (hnil : ∀ w', (binOp .eql 151 (.func (.func f) #[] #[]) .nilFunc).run Tryz.prog w' = .ok (.bool false) w') :
    Calls Tryz.prog 62 #[.agg #[gv], tyV t vp vm vo] w (Ret w (.bool (ok g t && zeroB (aft t)))) := by
  obtain ⟨A, cap, rfl⟩ := hg.len
  obtain ⟨A1, cap1, rfl⟩ := hof.parts.len
  obtain ⟨A2, cap2, rfl⟩ := hof.methods.len
  obtain ⟨A3, cap3, rfl⟩ := hof.overs.len
  have Hrules := Lib.hid (fun w => rules_any w)
  have Hrule := fun (w2 : World) (hEx : Ext w w2) hbx => hR w w2 _ g (w.heap.size + 1) t _ _ _ hEx (by omega) hG hg hgn hof hs hbx
  rw [zeroB_plain]
  generalize ok g t = r at Hrule ⊢
  generalize aft t = t' at Hrule hl1 hl2 hl3 ⊢
  replace Hrule := Lib.hid Hrule
  have heq := fun w' => eql_plain t'.kind t'.low t'.high t'.branded t'.brand t'.opaq t'.super t'.kind 0 0 false ByteArray.empty ByteArray.empty 0 w'
  have hsum : (((t'.parts.length : Int) + (t'.methods.length : Int) + (t'.overs.length : Int)) == 0) = decide (t'.parts.length + t'.methods.length + t'.overs.length = 0) := by
    rw [Bool.eq_iff_iff, beq_iff_eq, decide_eq_true_eq]; omega
  generalize plainB7 t'.kind t'.low t'.high t'.branded t'.brand t'.opaq t'.super t'.kind 0 0 false ByteArray.empty ByteArray.empty 0 = q at heq ⊢
  generalize decide (t'.parts.length + t'.methods.length + t'.overs.length = 0) = D at hsum ⊢
  have Heq := Lib.hid heq
  have Hsum := Lib.hid hsum
  clear heq hsum
  have Hcell := Lib.hid hcell
  have Hk := Lib.hid hk
  clear hcell hR hG hof hs hg
  unfold tyV
  go_enter Tryz.func62, Tryz.ntmps62
  go_wp2_with fail
  refine (Hrules.out _).mono ?_
  rintro e w1 ⟨rfl, hx1⟩
  have hbx := heap_alloc_self (w.alloc (.cells #[.slice A g.length cap] 77)) (.cells #[.int .u8 k, .int .i64 t.low, .int .i64 t.high, .bool t.branded, .string t.brand, .string t.opaq, .int .i64 t.super, .slice A1 t.parts.length cap1, .slice A2 t.methods.length cap2, .slice A3 t.overs.length cap3] 42)
  rw [World.size_alloc] at hbx
  have Hbx := Lib.hid (show TyBox w1 (w.heap.size + 1) t (.slice A1 t.parts.length cap1) (.slice A2 t.methods.length cap2) (.slice A3 t.overs.length cap3) from by unfold TyBox; rw [Hk.out]; exact hx1.heap hbx)
  have Hx1 := Lib.hid ((((Ext.refl w).alloc (.cells #[.slice A g.length cap] 77)).alloc _).trans hx1)
  have hgc := hx1.cell (v := .slice A g.length cap) (p := ⟨w.heap.size, 0, none⟩) (by simp)
  clear hbx hx1
  unfold rulesV fn
  go_upto_region 2 with fail
  have k0 := (Hbx.out.ext ((Ext.refl w1).alloc (.cells rulesV.cells 152))).at.c0
  have hkg := ((Ext.refl w1).alloc (.cells rulesV.cells 152)).cell hgc
  have hkr : (w1.alloc (.cells rulesV.cells 152)).cell? ⟨w1.heap.size, k, none⟩ = some (.func (.func f) #[] #[]) := by rw [World.cell?_alloc_new]; exact Hcell.out
  have Hxr := Lib.hid (Hx1.out.alloc (.cells rulesV.cells 152)).drew
  have Hbr := Lib.hid ((Hbx.out.ext ((Ext.refl w1).alloc (.cells rulesV.cells 152))).ext (Ext.refl _).drew)
  have hne : w1.heap.size ≠ w.heap.size + 1 := by have := Hbx.out.lt; omega
  have hne2 : w1.heap.size ≠ w.heap.size := by have := Hbx.out.lt; omega
  rw [Hk.out] at k0
  unfold rulesV fn at k0 hkg hkr Hxr Hbr
  simp only [Value.cells] at k0 hkg hkr Hxr Hbr
  generalize w1.alloc (.cells #[.nilFunc, .func (.func 155) #[] #[], .func (.func 155) #[] #[], .func (.func 156) #[] #[], .func (.func 155) #[] #[], .func (.func 155) #[] #[], .func (.func 155) #[] #[], .func (.func 155) #[] #[], .func (.func 155) #[] #[], .func (.func 157) #[] #[], .func (.func 158) #[] #[], .func (.func 157) #[] #[], .func (.func 159) #[] #[], .func (.func 160) #[] #[]] 152) = w2 at k0 hkg hkr Hxr Hbr ⊢
  have hk14 : (k : Int) < 14 := by omega
  have hk00 : (0 : Int) ≤ (k : Int) := by omega
  have hwr : IntKind.i64.wrap (k : Int) = k := IntWalk.i64_in _ (by omega)
  have hd14 : decide ((14 : Int) ≤ (k : Int)) = false := by simp; omega
  generalize w1.heap.size = B5 at hkr hne hne2 ⊢
  clear Hbx Hx1 hgc
  go_still_tail 17, (by kernel_rfl)
  change wpList _ _ _ _ _ w2.drew
  generalize w2.drew = w3 at Hxr Hbr ⊢
  clear k0 hkg hkr
  go_wp2_with fail
  refine (Hrule.out _ Hxr.out Hbr.out).mono ?_
  rintro e wc ⟨rfl, hx3, vp3, vm3, vo3, hb3, ⟨Ap3, cp3, rfl⟩, ⟨Am3, cm3, rfl⟩, ⟨Ao3, co3, rfl⟩⟩
  have Hx3 := Lib.hid hx3
  have Hb3 := Lib.hid hb3
  clear hx3 hb3 Hxr Hbr
  obtain ⟨d0, d1, d2, d3, d4, d5, d6, d7, d8, d9⟩ := Hb3.out.at
  simp only [Nat.zero_add] at d0 d1 d2 d3 d4 d5 d6 d7 d8 d9
  cases r
  · go_wp2_with fail
    go_ret
    exact ⟨rfl, Hx3.out⟩
  go_wp2_with fail
  refine (plainOf_any wc t' Ap3 Am3 Ao3 _ _ _ cp3 cm3 co3).mono ?_
  rintro e w4 ⟨rfl, hx4⟩
  have Hx4 := Lib.hid (Hx3.out.trans hx4)
  have Hb4 := Lib.hid (Hb3.out.ext hx4)
  clear d0 d1 d2 d3 d4 d5 d6 d7 d8 d9 hx4
  obtain ⟨d0, d1, d2, d3, d4, d5, d6, d7, d8, d9⟩ := Hb4.out.at
  simp only [Nat.zero_add] at d0 d1 d2 d3 d4 d5 d6 d7 d8 d9
  have hl4 : w.heap.size + 1 < w4.heap.size := Hb4.out.lt
  have g109 := fun x y xs ys w => guard109 .eql x y xs ys w
  have heq : ∀ w', (binOp .eql 109 (.agg #[.int .u8 t'.kind, .int .i64 t'.low, .int .i64 t'.high, .bool t'.branded, .string t'.brand, .string t'.opaq, .int .i64 t'.super]) (.agg #[.int .u8 t'.kind, .int .i64 0, .int .i64 0, .bool false, .string ⟨#[]⟩, .string ⟨#[]⟩, .int .i64 0])).run Tryz.prog w' = .ok (.bool q) w' := Heq.out
  have hsum := Hsum.out
  unfold plainV
  cases q <;> cases D
  all_goals
    go_wp2_with fail
    go_ret
    exact ⟨rfl, Hx4.out.alloc _⟩
end Go.Proofs.YtldnjnnhfeobdaaGreatDoor
/- Contract: right. Conditions: lengths below 2^20. -/
namespace Go.Proofs.YtldnjnnhfeobdaaGreatDoor
set_option linter.all false
set_option linter.unusedSimpArgs false
set_option linter.unusedVariables false
open Go.RowKit Go.Shelf

set_option maxRecDepth 100000 in
set_option maxHeartbeats 8000000 in
theorem right_big (w : World) (gv : Value) (g : Graph) (t : Ty) (vp vm vo : Value) (hg : Sl tyE w gv g) (hof : TyOf w t vp vm vo)
    (k : Nat) (hk : t.kind = k) (hk1 : 14 ≤ k) (hk2 : k ≤ 255) :
    Calls Tryz.prog 62 #[.agg #[gv], tyV t vp vm vo] w (Ret w (.bool false)) := by
  obtain ⟨A, cap, rfl⟩ := hg.len
  obtain ⟨A1, cap1, rfl⟩ := hof.parts.len
  obtain ⟨A2, cap2, rfl⟩ := hof.methods.len
  obtain ⟨A3, cap3, rfl⟩ := hof.overs.len
  have Hrules := Lib.hid (fun w => rules_any w)
  have Hk := Lib.hid hk
  clear hof hg
  unfold tyV
  go_enter Tryz.func62, Tryz.ntmps62
  go_wp2_with fail
  refine (Hrules.out _).mono ?_
  rintro e w1 ⟨rfl, hx1⟩
  have hbx := heap_alloc_self (w.alloc (.cells #[.slice A g.length cap] 77)) (.cells #[.int .u8 k, .int .i64 t.low, .int .i64 t.high, .bool t.branded, .string t.brand, .string t.opaq, .int .i64 t.super, .slice A1 t.parts.length cap1, .slice A2 t.methods.length cap2, .slice A3 t.overs.length cap3] 42)
  rw [World.size_alloc] at hbx
  have Hbx := Lib.hid (show TyBox w1 (w.heap.size + 1) t (.slice A1 t.parts.length cap1) (.slice A2 t.methods.length cap2) (.slice A3 t.overs.length cap3) from by unfold TyBox; rw [Hk.out]; exact hx1.heap hbx)
  have Hx1 := Lib.hid ((((Ext.refl w).alloc (.cells #[.slice A g.length cap] 77)).alloc _).trans hx1)
  have hgc := hx1.cell (v := .slice A g.length cap) (p := ⟨w.heap.size, 0, none⟩) (by simp)
  clear hbx hx1
  unfold rulesV fn
  go_upto_region 2 with fail
  have k0 := (Hbx.out.ext ((Ext.refl w1).alloc (.cells rulesV.cells 152))).at.c0
  have hkg := ((Ext.refl w1).alloc (.cells rulesV.cells 152)).cell hgc
  have Hxr := Lib.hid (Hx1.out.alloc (.cells rulesV.cells 152)).drew
  have Hbr := Lib.hid ((Hbx.out.ext ((Ext.refl w1).alloc (.cells rulesV.cells 152))).ext (Ext.refl _).drew)
  have hne : w1.heap.size ≠ w.heap.size + 1 := by have := Hbx.out.lt; omega
  have hne2 : w1.heap.size ≠ w.heap.size := by have := Hbx.out.lt; omega
  rw [Hk.out] at k0
  unfold rulesV fn at k0 hkg Hxr Hbr
  simp only [Value.cells] at k0 hkg Hxr Hbr
  generalize w1.alloc (.cells #[.nilFunc, .func (.func 155) #[] #[], .func (.func 155) #[] #[], .func (.func 156) #[] #[], .func (.func 155) #[] #[], .func (.func 155) #[] #[], .func (.func 155) #[] #[], .func (.func 155) #[] #[], .func (.func 155) #[] #[], .func (.func 157) #[] #[], .func (.func 158) #[] #[], .func (.func 157) #[] #[], .func (.func 159) #[] #[], .func (.func 160) #[] #[]] 152) = w2 at k0 hkg Hxr Hbr ⊢
  have hk00 : (0 : Int) ≤ (k : Int) := by omega
  have hk255 : (k : Int) ≤ 255 := by omega
  have hwr : IntKind.i64.wrap (k : Int) = k := IntWalk.i64_in _ (by omega)
  have hd14 : decide ((14 : Int) ≤ (k : Int)) = true := by simp; omega
  generalize w1.heap.size = B5 at hne hne2 ⊢
  clear Hbx Hx1 hgc
  go_still_tail 17, (by kernel_rfl)
  change wpList _ _ _ _ _ w2.drew
  generalize w2.drew = w3 at Hxr Hbr ⊢
  clear k0 hkg
  go_wp2_with fail
  go_ret
  exact ⟨rfl, Hxr.out⟩

set_option maxRecDepth 100000 in
set_option maxHeartbeats 8000000 in
theorem right_zero (w : World) (gv : Value) (g : Graph) (t : Ty) (vp vm vo : Value) (hg : Sl tyE w gv g) (hof : TyOf w t vp vm vo)
    (k : Nat) (hk : t.kind = k) (hk0 : k = 0) :
    Calls Tryz.prog 62 #[.agg #[gv], tyV t vp vm vo] w (Ret w (.bool false)) := by
  obtain ⟨A, cap, rfl⟩ := hg.len
  obtain ⟨A1, cap1, rfl⟩ := hof.parts.len
  obtain ⟨A2, cap2, rfl⟩ := hof.methods.len
  obtain ⟨A3, cap3, rfl⟩ := hof.overs.len
  have Hrules := Lib.hid (fun w => rules_any w)
  have Hk := Lib.hid hk
  have Hk0 := Lib.hid hk0
  clear hk0
  clear hof hg
  unfold tyV
  go_enter Tryz.func62, Tryz.ntmps62
  go_wp2_with fail
  refine (Hrules.out _).mono ?_
  rintro e w1 ⟨rfl, hx1⟩
  have hbx := heap_alloc_self (w.alloc (.cells #[.slice A g.length cap] 77)) (.cells #[.int .u8 k, .int .i64 t.low, .int .i64 t.high, .bool t.branded, .string t.brand, .string t.opaq, .int .i64 t.super, .slice A1 t.parts.length cap1, .slice A2 t.methods.length cap2, .slice A3 t.overs.length cap3] 42)
  rw [World.size_alloc] at hbx
  have Hbx := Lib.hid (show TyBox w1 (w.heap.size + 1) t (.slice A1 t.parts.length cap1) (.slice A2 t.methods.length cap2) (.slice A3 t.overs.length cap3) from by unfold TyBox; rw [Hk.out]; exact hx1.heap hbx)
  have Hx1 := Lib.hid ((((Ext.refl w).alloc (.cells #[.slice A g.length cap] 77)).alloc _).trans hx1)
  have hgc := hx1.cell (v := .slice A g.length cap) (p := ⟨w.heap.size, 0, none⟩) (by simp)
  clear hbx hx1
  unfold rulesV fn
  go_upto_region 2 with fail
  have k0 := (Hbx.out.ext ((Ext.refl w1).alloc (.cells rulesV.cells 152))).at.c0
  have hkg := ((Ext.refl w1).alloc (.cells rulesV.cells 152)).cell hgc
  have hkr : (w1.alloc (.cells rulesV.cells 152)).cell? ⟨w1.heap.size, k, none⟩ = some .nilFunc := by rw [World.cell?_alloc_new, Hk0.out]; rfl
  have Hxr := Lib.hid (Hx1.out.alloc (.cells rulesV.cells 152)).drew
  have Hbr := Lib.hid ((Hbx.out.ext ((Ext.refl w1).alloc (.cells rulesV.cells 152))).ext (Ext.refl _).drew)
  have hne : w1.heap.size ≠ w.heap.size + 1 := by have := Hbx.out.lt; omega
  have hne2 : w1.heap.size ≠ w.heap.size := by have := Hbx.out.lt; omega
  rw [Hk.out] at k0
  unfold rulesV fn at k0 hkg hkr Hxr Hbr
  simp only [Value.cells] at k0 hkg hkr Hxr Hbr
  generalize w1.alloc (.cells #[.nilFunc, .func (.func 155) #[] #[], .func (.func 155) #[] #[], .func (.func 156) #[] #[], .func (.func 155) #[] #[], .func (.func 155) #[] #[], .func (.func 155) #[] #[], .func (.func 155) #[] #[], .func (.func 155) #[] #[], .func (.func 157) #[] #[], .func (.func 158) #[] #[], .func (.func 157) #[] #[], .func (.func 159) #[] #[], .func (.func 160) #[] #[]] 152) = w2 at k0 hkg hkr Hxr Hbr ⊢
  have hk14 : (k : Int) < 14 := by have := Hk0.out; omega
  have hk00 : (0 : Int) ≤ (k : Int) := by omega
  have hwr : IntKind.i64.wrap (k : Int) = k := IntWalk.i64_in _ (by omega)
  have hd14 : decide ((14 : Int) ≤ (k : Int)) = false := by simp; omega
  have hnil : ∀ w', (binOp .eql 151 .nilFunc .nilFunc).run Tryz.prog w' = .ok (.bool true) w' := fun w' => by kernel_rfl
  generalize w1.heap.size = B5 at hkr hne hne2 ⊢
  clear Hbx Hx1 hgc
  go_still_tail 17, (by kernel_rfl)
  change wpList _ _ _ _ _ w2.drew
  generalize w2.drew = w3 at Hxr Hbr ⊢
  clear k0 hkg hkr
  go_wp2_with fail
  go_ret
  exact ⟨rfl, Hxr.out⟩

theorem right_any (w : World) (gv : Value) (g : Graph) (t : Ty) (vp vm vo : Value) (hg : Sl tyE w gv g) (hgn : g.length ≤ 1048576) (hG : Glob w) (hof : TyOf w t vp vm vo) (hs : TySmall t) (hk : 0 ≤ t.kind ∧ t.kind ≤ 255) :
    Calls Tryz.prog 62 #[.agg #[gv], tyV t vp vm vo] w (Ret w (.bool (rightB g t))) := by
  obtain ⟨k, hk'⟩ := Int.eq_ofNat_of_zero_le hk.1
  have hp := hs.parts
  have hm := hs.methods
  have ho := hs.overs
  have h0 : ([] : List Part).length ≤ 1048576 := by simp
  have h0m : ([] : List Method).length ≤ 1048576 := by simp
  have h0o : ([] : List Over).length ≤ 1048576 := by simp
  by_cases hb : 14 ≤ k
  · have e : rightB g t = false := by
      unfold rightB
      rw [if_neg (by omega), if_neg (by omega), if_neg (by omega), if_neg (by omega), if_neg (by omega), decide_eq_false (by omega)]; rfl
    rw [e]
    exact right_big w gv g t vp vm vo hg hof k hk' hb (by omega)
  by_cases hz : k = 0
  · have e : rightB g t = false := by
      unfold rightB
      rw [if_neg (by omega), if_neg (by omega), if_neg (by omega), if_neg (by omega), if_neg (by omega), decide_eq_false (by omega)]; rfl
    rw [e]
    exact right_zero w gv g t vp vm vo hg hof k hk' hz
  have plainR : k = 1 ∨ k = 2 ∨ k = 4 ∨ k = 5 ∨ k = 6 ∨ k = 7 ∨ k = 8 → rightB g t = (true && zeroB t) := fun h => by
    unfold rightB
    rw [if_neg (by omega), if_neg (by omega), if_neg (by omega), if_neg (by omega), if_neg (by omega), decide_eq_true (by omega)]
  by_cases h1 : k = 1
  · have e : rightB g t = (true && zeroB t) := plainR (by omega)
    rw [e]
    exact right_rule 155 _ _ nothing_rule w gv g t vp vm vo hg hgn hG hof hs k hk' (by omega) (by omega) (by rw [h1]; rfl) (enters_of Tryz.func155 (by kernel_rfl) rfl) hp hm ho (fun w' => by kernel_rfl)
  by_cases h2 : k = 2
  · have e : rightB g t = (true && zeroB t) := plainR (by omega)
    rw [e]
    exact right_rule 155 _ _ nothing_rule w gv g t vp vm vo hg hgn hG hof hs k hk' (by omega) (by omega) (by rw [h2]; rfl) (enters_of Tryz.func155 (by kernel_rfl) rfl) hp hm ho (fun w' => by kernel_rfl)
  by_cases h4 : k = 4
  · have e : rightB g t = (true && zeroB t) := plainR (by omega)
    rw [e]
    exact right_rule 155 _ _ nothing_rule w gv g t vp vm vo hg hgn hG hof hs k hk' (by omega) (by omega) (by rw [h4]; rfl) (enters_of Tryz.func155 (by kernel_rfl) rfl) hp hm ho (fun w' => by kernel_rfl)
  by_cases h5 : k = 5
  · have e : rightB g t = (true && zeroB t) := plainR (by omega)
    rw [e]
    exact right_rule 155 _ _ nothing_rule w gv g t vp vm vo hg hgn hG hof hs k hk' (by omega) (by omega) (by rw [h5]; rfl) (enters_of Tryz.func155 (by kernel_rfl) rfl) hp hm ho (fun w' => by kernel_rfl)
  by_cases h6 : k = 6
  · have e : rightB g t = (true && zeroB t) := plainR (by omega)
    rw [e]
    exact right_rule 155 _ _ nothing_rule w gv g t vp vm vo hg hgn hG hof hs k hk' (by omega) (by omega) (by rw [h6]; rfl) (enters_of Tryz.func155 (by kernel_rfl) rfl) hp hm ho (fun w' => by kernel_rfl)
  by_cases h7 : k = 7
  · have e : rightB g t = (true && zeroB t) := plainR (by omega)
    rw [e]
    exact right_rule 155 _ _ nothing_rule w gv g t vp vm vo hg hgn hG hof hs k hk' (by omega) (by omega) (by rw [h7]; rfl) (enters_of Tryz.func155 (by kernel_rfl) rfl) hp hm ho (fun w' => by kernel_rfl)
  by_cases h8 : k = 8
  · have e : rightB g t = (true && zeroB t) := plainR (by omega)
    rw [e]
    exact right_rule 155 _ _ nothing_rule w gv g t vp vm vo hg hgn hG hof hs k hk' (by omega) (by omega) (by rw [h8]; rfl) (enters_of Tryz.func155 (by kernel_rfl) rfl) hp hm ho (fun w' => by kernel_rfl)
  by_cases h3 : k = 3
  · have e : rightB g t = (rangedB g t && zeroB (noRange t)) := by unfold rightB; rw [if_pos (by omega)]
    rw [e]
    exact right_rule 156 _ _ ranged_rule w gv g t vp vm vo hg hgn hG hof hs k hk' (by omega) (by omega) (by rw [h3]; rfl) (enters_of Tryz.func156 (by kernel_rfl) rfl) hp hm ho (fun w' => by kernel_rfl)
  by_cases h9 : k = 9
  · have e : rightB g t = (heldB g t && zeroB (noParts t)) := by unfold rightB; rw [if_neg (by omega), if_pos (by omega)]
    rw [e]
    exact right_rule 157 _ _ held_rule w gv g t vp vm vo hg hgn hG hof hs k hk' (by omega) (by omega) (by rw [h9]; rfl) (enters_of Tryz.func157 (by kernel_rfl) rfl) h0 hm ho (fun w' => by kernel_rfl)
  by_cases h10 : k = 10
  · have e : rightB g t = (recordedB g t && zeroB (noParts t)) := by unfold rightB; rw [if_neg (by omega), if_neg (by omega), if_pos (by omega)]
    rw [e]
    exact right_rule 158 _ _ recorded_rule w gv g t vp vm vo hg hgn hG hof hs k hk' (by omega) (by omega) (by rw [h10]; rfl) (enters_of Tryz.func158 (by kernel_rfl) rfl) h0 hm ho (fun w' => by kernel_rfl)
  by_cases h11 : k = 11
  · have e : rightB g t = (heldB g t && zeroB (noParts t)) := by unfold rightB; rw [if_neg (by omega), if_pos (by omega)]
    rw [e]
    exact right_rule 157 _ _ held_rule w gv g t vp vm vo hg hgn hG hof hs k hk' (by omega) (by omega) (by rw [h11]; rfl) (enters_of Tryz.func157 (by kernel_rfl) rfl) h0 hm ho (fun w' => by kernel_rfl)
  by_cases h12 : k = 12
  · have e : rightB g t = (objectsB g t && zeroB (noObject t)) := by unfold rightB; rw [if_neg (by omega), if_neg (by omega), if_neg (by omega), if_pos (by omega)]
    rw [e]
    exact right_rule 159 _ _ objects_rule w gv g t vp vm vo hg hgn hG hof hs k hk' (by omega) (by omega) (by rw [h12]; rfl) (enters_of Tryz.func159 (by kernel_rfl) rfl) h0 h0m h0o (fun w' => by kernel_rfl)
  by_cases h13 : k = 13
  · have e : rightB g t = (opaqueB g t && zeroB (noOpaque t)) := by unfold rightB; rw [if_neg (by omega), if_neg (by omega), if_neg (by omega), if_neg (by omega), if_pos (by omega)]
    rw [e]
    exact right_rule 160 _ _ opaque_rule w gv g t vp vm vo hg hgn hG hof hs k hk' (by omega) (by omega) (by rw [h13]; rfl) (enters_of Tryz.func160 (by kernel_rfl) rfl) hp hm ho (fun w' => by kernel_rfl)
  omega
end Go.Proofs.YtldnjnnhfeobdaaGreatDoor
/- Contract: Check. Conditions: lengths below 2^20. -/
namespace Go.Proofs.YtldnjnnhfeobdaaGreatDoor
set_option linter.all false
set_option linter.unusedSimpArgs false
set_option linter.unusedVariables false
open Go.RowKit Go.Shelf

/-- a graph of which nothing is long -/
structure Tidy (g : Graph) : Prop where
  len : g.length ≤ 1048576
  ty : ∀ t ∈ g, TySmall t ∧ 0 ≤ t.kind ∧ t.kind ≤ 255
theorem checkG_bad {g : Graph} {k : Nat} (h4 : ¬ 400 < g.length) (hk : k < g.length) (h : ∀ i (hi : i < g.length), i < k → rightB g g[i] = true) (hb : rightB g g[k] = false) : checkG g = ((k : Int), 30) := by
  unfold checkG
  rw [if_neg h4]
  have : g.findIdx? (fun t => !rightB g t) = some k := by
    rw [List.findIdx?_eq_some_iff_getElem]
    exact ⟨hk, by simp [hb], fun j hj => by simp [h j (by omega) hj]⟩
  rw [this]
theorem checkG_rest {g : Graph} (h4 : ¬ 400 < g.length) (h : ∀ i (hi : i < g.length), rightB g g[i] = true) :
    checkG g = match (List.range g.length).find? fun i => cycN g i g.length i with | some i => ((i : Int), 30) | none => (0, 0) := by
  unfold checkG
  rw [if_neg h4]
  have : g.findIdx? (fun t => !rightB g t) = none := by
    rw [List.findIdx?_eq_none_iff]
    intro t ht
    obtain ⟨i, hi, rfl⟩ := List.mem_iff_getElem.1 ht
    simp [h i hi]
  rw [this]
  all_goals rfl
theorem checkG_cyc {g : Graph} {k : Nat} (h4 : ¬ 400 < g.length) (h : ∀ i (hi : i < g.length), rightB g g[i] = true) (hk : k < g.length) (hc : ∀ i, i < k → cycN g i g.length i = false) (hb : cycN g k g.length k = true) : checkG g = ((k : Int), 30) := by
  rw [checkG_rest h4 h]
  have : (List.range g.length).find? (fun i => cycN g i g.length i) = some k := by
    rw [List.find?_eq_some_iff_getElem]
    exact ⟨hb, k, by simpa using hk, by simp, fun j hj => by simp [hc j hj]⟩
  rw [this]
theorem checkG_fine {g : Graph} (h4 : ¬ 400 < g.length) (h : ∀ i (hi : i < g.length), rightB g g[i] = true) (hc : ∀ i, i < g.length → cycN g i g.length i = false) : checkG g = (0, 0) := by
  rw [checkG_rest h4 h]
  have : (List.range g.length).find? (fun i => cycN g i g.length i) = none := by
    rw [List.find?_eq_none]
    intro i hi
    simp [hc i (by simpa using hi)]
  rw [this]
theorem cycN_stop {g : Graph} {i n a : Nat} (h : hasSuperB (getT g a).kind = false) : cycN g i n a = false := by
  cases n with
  | zero => rfl
  | succ n => simp [cycN, h]
theorem cycN_hit {g : Graph} {i n a : Nat} (hn : 0 < n) (h : hasSuperB (getT g a).kind = true) (hs : superN g a = i) : cycN g i n a = true := by
  cases n with
  | zero => omega
  | succ n => simp [cycN, h, hs]
theorem cycN_go {g : Graph} {i n a : Nat} (h : hasSuperB (getT g a).kind = true) (hs : superN g a ≠ i) : cycN g i (n + 1) a = cycN g i n (superN g a) := by
  simp [cycN, h, hs]

set_option maxRecDepth 100000 in
set_option maxHeartbeats 8000000 in
theorem check_any (w : World) (gv : Value) (g : Graph) (hg : Sl tyE w gv g) (hT : Tidy g) (hG : Glob w) :
    Calls Tryz.prog 23 #[gv] w (Ret w (.tuple #[.int .i64 (checkG g).1, .int .i64 (checkG g).2])) := by
  obtain ⟨A, cap, rfl, hs⟩ := hg.ty
  have hlen := hT.len
  have hcall := fun (w' : World) (hx : Ext w w') (i : Nat) (hi : i < g.length) vp vm vo (hof : TyOf w g[i] vp vm vo) =>
    right_any w' _ g g[i] vp vm vo (hg.mono hx) hlen (hG.mono hx) (hof.mono hx) (hT.ty _ (List.getElem_mem hi)).1 (hT.ty _ (List.getElem_mem hi)).2
  have Hcall := Lib.hid hcall
  have Hs := Lib.hid hs
  clear hcall hs hg hT hG
  by_cases h4 : 400 < g.length
  · have e : checkG g = (400, 30) := by unfold checkG; rw [if_pos h4]
    rw [e]
    have h4' : (400 : Int) < (g.length : Int) := by omega
    clear e Hcall Hs
    go_enter Tryz.func23, Tryz.ntmps23
    go_wp2_with fail
    go_ret2
    exact ⟨rfl, Ext.refl _⟩
  · have h4' : ¬ (400 : Int) < (g.length : Int) := by omega
    have H4 := Lib.hid h4
    have hx0 := (Ext.refl w).alloc (.cells #[.slice A g.length cap] 77)
    have hcg := World.cell?_alloc_new (w := w) #[.slice A g.length cap] 77 0
    have Hx0 := Lib.hid hx0
    clear h4 hx0
    go_enter Tryz.func23, Tryz.ntmps23
    go_wp2_with fail
    obtain ⟨w0, hw0⟩ : ∃ w0, w.alloc (.cells #[.slice A g.length cap] 77) = w0 := ⟨_, rfl⟩
    rw [hw0] at hcg Hx0 ⊢
    have Hcg := Lib.hid (show w0.cell? ⟨w.heap.size, 0, none⟩ = some (.slice A g.length cap) from hcg)
    clear hw0 hcg
    go_loopw [16] (fun i wr => ∃ k : Nat, k ≤ g.length ∧ i = .int .i64 k ∧ Hid (Ext w0 wr) ∧ Hid (∀ i (hi : i < g.length), i < k → rightB g g[i] = true)) (fun i _ => g.length - (intOf i).toNat)
    case atStart => exact ⟨0, by omega, by simp, Lib.hid (Ext.refl _), fun i _ h => by omega⟩
    case round =>
      obtain ⟨k, hk, rfl, Hxr, Hno⟩ := hrel
      by_cases hlt : k < g.length
      · obtain ⟨b, off, vp, vm, vo, rfl, hat, hof⟩ := Hs.out k hlt
        have hof' := Lib.hid hof
        obtain ⟨A1, c1, e1⟩ := hof.parts.len
        obtain ⟨A2, c2, e2⟩ := hof.methods.len
        obtain ⟨A3, c3, e3⟩ := hof.overs.len
        subst e1 e2 e3
        obtain ⟨d0, d1, d2, d3, d4, d5, d6, d7, d8, d9⟩ := hat.mono (Hx0.out.trans Hxr.out)
        have hcr := Hxr.out.cell Hcg.out
        have hb1 := cell_lt hcr
        have hi0 : (0 : Int) ≤ (k : Int) := by omega
        have hi1 : (k : Int) < (g.length : Int) := by omega
        clear hat hof
        go_wp2_with fail
        refine (Hcall.out _ ((Hx0.out.trans Hxr.out).alloc _) k hlt _ _ _ hof'.out).mono ?_
        rintro e w1 ⟨rfl, hx1⟩
        have Hx1 := Lib.hid ((Hxr.out.alloc _).trans hx1)
        clear d0 d1 d2 d3 d4 d5 d6 d7 d8 d9 hcr hx1
        cases hr : rightB g g[k]
        · have e := Lib.hid (checkG_bad H4.out hlt Hno.out hr)
          clear hr
          go_wp2_with fail
          go_ret2
          exact ⟨by rw [e.out]; rfl, Hx0.out.trans Hx1.out⟩
        · have Hr := Lib.hid hr
          clear hr
          go_wp2_with fail
          go_roundw
          case rel => exact ⟨k + 1, by omega, by go_num, Hx1, fun i h hi => by
              by_cases e : i = k
              · subst e; exact Hr.out
              · exact Hno.out i h (by omega)⟩
          case measure => simp [intOf]; omega
      · have Hall := Lib.hid (show ∀ i (hi : i < g.length), rightB g g[i] = true from fun i hi => Hno.out i hi (by omega))
        clear Hno
        go_wp2_with fail
        clear hlt
        go_loopw [29] (fun i wq => ∃ k : Nat, k ≤ g.length ∧ i = .int .i64 k ∧ Hid (Ext w0 wq) ∧ Hid (∀ i, i < k → cycN g i g.length i = false)) (fun i _ => g.length - (intOf i).toNat)
        case atStart => exact ⟨0, by omega, by simp, Hxr, fun i h => by omega⟩
        case round =>
          clear Hxr
          obtain ⟨j, hj, rfl, Hxr, Hno⟩ := hrel
          by_cases hlt : j < g.length
          · have hj0 : (j : Int) < (g.length : Int) := by omega
            go_wp2_with fail
            obtain ⟨wo, rfl⟩ : ∃ wo : World, wo = wr := ⟨_, rfl⟩
            go_loopw [8, 35] (fun a i wq => ∃ n q : Nat, n ≤ g.length ∧ i = .int .i64 n ∧ q < g.length ∧ a = .int .i64 q ∧ Hid (Ext w0 wq) ∧ Hid (cycN g j g.length j = cycN g j (g.length - n) q)) (fun _ i _ => g.length - (intOf i).toNat)
            case atStart => exact ⟨0, j, by omega, by simp, hlt, by simp, Hxr, rfl⟩
            case round =>
              clear Hxr
              obtain ⟨n, q, hn, rfl, hq, rfl, Hxr, Hcy⟩ := hrel
              by_cases hnl : n < g.length
              · obtain ⟨b, off, vp, vm, vo, hA, hat, hof⟩ := Hs.out q hq
                subst hA
                have hat' := hat.mono (Hx0.out.trans Hxr.out)
                have d0 := hat'.c0
                have d6 := hat'.c6
                have hi0 : (0 : Int) ≤ (q : Int) := by omega
                have hi1 : (q : Int) < (g.length : Int) := by omega
                have hgq := getT_lt hq
                clear hat hof hat'
                cases hsup : hasSuperB g[q].kind
                · have Hsup := Lib.hid hsup
                  have Hc := Lib.hid (Hcy.out.trans (cycN_stop (by rw [hgq]; exact hsup)))
                  clear hsup hgq
                  go_wp2_with fail
                  refine (hasSuper_any _ _).mono ?_
                  rintro e w' ⟨rfl, rfl⟩
                  rw [Hsup.out]
                  go_wp2_with fail
                  go_roundw
                  case rel => exact ⟨j + 1, by omega, by go_num, Hxr, fun i h => by
                      by_cases e : i = j
                      · subst e; exact Hc.out
                      · exact Hno.out i (by omega)⟩
                  case measure => simp [intOf]; omega
                · have Hsup := Lib.hid hsup
                  have hsg : hasSuperB (getT g q).kind = true := by rw [hgq]; exact hsup
                  obtain ⟨s0, s1⟩ := (right_fine (Hall.out q hq)).super hsup
                  have hse : superN g q = g[q].super.toNat := by unfold superN; rw [hgq]
                  obtain ⟨m, hm⟩ := Int.eq_ofNat_of_zero_le s0
                  rw [hm] at d6 s1 hse
                  have hse' : superN g q = m := by rw [hse]; rfl
                  have hmlt : m < g.length := by omega
                  by_cases hmj : m = j
                  · have e := Lib.hid (checkG_cyc H4.out Hall.out hlt Hno.out (by rw [Hcy.out]; exact cycN_hit (by omega) hsg (by rw [hse']; exact hmj)))
                    have hmj' : ((m : Int) == (j : Int)) = true := by rw [beq_iff_eq]; omega
                    have Hmj := Lib.hid hmj
                    clear hsup hgq hsg hse hse' hm hmj
                    go_wp2_with fail
                    refine (hasSuper_any _ _).mono ?_
                    rintro e w' ⟨rfl, rfl⟩
                    rw [Hsup.out]
                    go_wp2_with fail
                    go_ret2
                    exact ⟨by rw [e.out]; rfl, Hx0.out.trans Hxr.out⟩
                  · have hmj' : ((m : Int) == (j : Int)) = false := by simp; omega
                    have Hc := Lib.hid (show cycN g j g.length j = cycN g j (g.length - (n + 1)) m by
                      rw [Hcy.out, show g.length - n = (g.length - (n + 1)) + 1 by omega, cycN_go hsg (by rw [hse']; exact hmj), hse'])
                    clear hsup hgq hsg hse hse' hm hmj
                    go_wp2_with fail
                    refine (hasSuper_any _ _).mono ?_
                    rintro e w' ⟨rfl, rfl⟩
                    rw [Hsup.out]
                    go_wp2_with fail
                    go_roundw
                    case rel => exact ⟨n + 1, m, by omega, by go_num, hmlt, rfl, Hxr, Hc⟩
                    case measure => simp [intOf]; omega
              · have Hc := Lib.hid (Hcy.out.trans (by rw [show g.length - n = 0 by omega, cycN]))
                go_wp2_with fail
                go_roundw
                case rel => exact ⟨j + 1, by omega, by go_num, Hxr, fun i h => by
                    by_cases e : i = j
                    · subst e; exact Hc.out
                    · exact Hno.out i (by omega)⟩
                case measure => simp [intOf]; omega
          · have e := Lib.hid (checkG_fine H4.out Hall.out (fun i hi => Hno.out i (by omega)))
            go_wp2_with fail
            go_ret2
            exact ⟨by rw [e.out]; rfl, Hx0.out.trans Hxr.out⟩
end Go.Proofs.YtldnjnnhfeobdaaGreatDoor
/- Contract: opened. Conditions: lengths below 2^20. -/
namespace Go.Proofs.YtldnjnnhfeobdaaGreatDoor
set_option linter.all false
set_option linter.unusedSimpArgs false
set_option linter.unusedVariables false
open Go.RowKit Go.Shelf

def outB (n : Nat) (i : Int) : Bool := !hasB n i
set_option maxRecDepth 100000 in
theorem opened1 (w : World) (B : Nat) (A : Option Addr) (n cap : Nat) (i : Int) (hn : n ≤ 1048576) (hc : w.cell? ⟨B, 0, none⟩ = some (.slice A n cap)) :
    Calls Tryz.prog 103 #[.int .i64 i, .pointer (some ⟨B, 0, none⟩)] w (Ret w (.bool (outB n i))) := by
  have hlt := cell_lt hc
  have hh := fun w => has_any w A n cap i hn
  unfold outB
  generalize hasB n i = r at hh ⊢
  have Hh := Lib.hid hh
  clear hh
  go_enter Tryz.func103, Tryz.ntmps103
  go_wp2_with fail
  refine (Hh.out _).mono ?_
  rintro e w1 ⟨rfl, hx1⟩
  go_wp2_with fail
  go_ret
  exact ⟨rfl, hx1⟩
theorem pred103 (w : World) (B : Nat) (A : Option Addr) (n cap : Nat) (xs : List Int) (hn : n ≤ 1048576) (hc : w.cell? ⟨B, 0, none⟩ = some (.slice A n cap)) :
    Pred intE w 103 #[.pointer (some ⟨B, 0, none⟩)] xs (outB n) :=
  ⟨enters_of Tryz.func103 (by kernel_rfl) rfl, by
    rintro x _ w' A' hx ⟨cs, rfl, rfl⟩
    exact opened1 w' B A n cap x hn (hx.cell hc)⟩

/-- the error of a graph, and of indices -/
def errG (g : Graph) (ats : List Int) : Int := if (checkG g).2 = 0 then (if ats.any (outB g.length) then 1 else 0) else 30
theorem errG_bad {g : Graph} {ats : List Int} (h : (checkG g).2 ≠ 0) : errG g ats = 30 := by unfold errG; rw [if_neg h]
set_option maxRecDepth 100000 in
set_option maxHeartbeats 4000000 in
theorem opened_any (w : World) (gv v : Value) (g : Graph) (ats : List Int) (hg : Sl tyE w gv g) (hT : Tidy g) (hG : Glob w) (hv : Sl intE w v ats) (hn : ats.length ≤ 1048576) :
    Calls Tryz.prog 54 #[gv, v] w (Ret w (.tuple #[.agg #[gv], .int .i64 (errG g ats)])) := by
  have hch := fun (w' : World) (hx : Ext w w') => check_any w' gv g (hg.mono hx) hT (hG.mono hx)
  have hlen := hT.len
  obtain ⟨A, cap, rfl⟩ := hg.len
  have hcf := fun (B : Nat) (w' : World) (hx : Ext w w') (hc : w'.cell? ⟨B, 0, none⟩ = some (.slice A g.length cap)) =>
    containsFunc_int 103 #[.pointer (some ⟨B, 0, none⟩)] w' v ats (outB g.length) (hv.mono hx) hn (pred103 w' B A g.length cap ats hlen hc)
  obtain ⟨Av, cv, rfl⟩ := hv.len
  have h30 := checkG_err (g := g)
  have hx0 := Lib.hid (((Ext.refl w).alloc (.cells #[.slice none 0 0] 77)).alloc (.cells #[.slice A g.length cap] 77))
  have hsz : w.heap.size + 1 < ((w.alloc (.cells #[.slice none 0 0] 77)).alloc (.cells #[.slice A g.length cap] 77)).heap.size := by simp
  unfold errG
  generalize ats.any (outB g.length) = r at hcf ⊢
  generalize checkG g = c at hch h30 ⊢
  obtain ⟨c1, c2⟩ := c
  simp only at h30 ⊢
  have Hch := Lib.hid hch
  have Hcf := Lib.hid hcf
  clear hch hcf hg hv hG
  rcases h30 with e | e
  · subst e
    rw [if_pos rfl]
    cases r
    · rw [if_neg (by decide)]
      go_enter Tryz.func54, Tryz.ntmps54
      go_wp2_with fail
      refine (Hch.out _ hx0.out).mono ?_
      rintro e w1 ⟨rfl, hx1⟩
      have Hx1 := Lib.hid (hx0.out.trans hx1)
      have c0 := hx1.cell (v := .slice none 0 0) (p := ⟨w.heap.size, 0, none⟩) (by simp)
      have c1' := hx1.cell (v := .slice A g.length cap) (p := ⟨w.heap.size + 1, 0, none⟩) (by simp)
      have f0 : w1.frozen? ⟨w.heap.size, 0, none⟩ = false := hx1.frozen (v := .slice none 0 0) (p := ⟨w.heap.size, 0, none⟩) (by simp) (by simp)
      have l0 := cell_lt c0
      have l1 := cell_lt c1'
      clear hx1
      go_wp2_with fail
      refine (Hcf.out _ _ Hx1.out c1').mono ?_
      rintro e w2 ⟨rfl, hx2⟩
      have Hx2 := Lib.hid (Hx1.out.trans hx2)
      replace f0 := hx2.frozen c0 f0
      replace c0 := hx2.cell c0
      replace c1' := hx2.cell c1'
      clear hx2
      have l2 := cell_lt c0
      have l3 := cell_lt c1'
      go_wp2_with fail
      exact bodyPost_ret (v := .tuple #[.agg #[.slice A g.length cap], .int .i64 0]) (by simp [results, Tryz.results54, go_sem, c0]) rfl ⟨rfl, Hx2.out.setCell (by simp) _⟩
    · rw [if_pos rfl]
      go_enter Tryz.func54, Tryz.ntmps54
      go_wp2_with fail
      refine (Hch.out _ hx0.out).mono ?_
      rintro e w1 ⟨rfl, hx1⟩
      have Hx1 := Lib.hid (hx0.out.trans hx1)
      have c0 := hx1.cell (v := .slice none 0 0) (p := ⟨w.heap.size, 0, none⟩) (by simp)
      have c1' := hx1.cell (v := .slice A g.length cap) (p := ⟨w.heap.size + 1, 0, none⟩) (by simp)
      have f0 : w1.frozen? ⟨w.heap.size, 0, none⟩ = false := hx1.frozen (v := .slice none 0 0) (p := ⟨w.heap.size, 0, none⟩) (by simp) (by simp)
      have l0 := cell_lt c0
      have l1 := cell_lt c1'
      clear hx1
      go_wp2_with fail
      refine (Hcf.out _ _ Hx1.out c1').mono ?_
      rintro e w2 ⟨rfl, hx2⟩
      have Hx2 := Lib.hid (Hx1.out.trans hx2)
      replace f0 := hx2.frozen c0 f0
      replace c0 := hx2.cell c0
      replace c1' := hx2.cell c1'
      clear hx2
      have l2 := cell_lt c0
      have l3 := cell_lt c1'
      go_wp2_with fail
      exact bodyPost_ret (v := .tuple #[.agg #[.slice A g.length cap], .int .i64 1]) (by simp [results, Tryz.results54, go_sem, c0]) rfl ⟨rfl, Hx2.out.setCell (by simp) _⟩
  · subst e
    rw [if_neg (by decide)]
    go_enter Tryz.func54, Tryz.ntmps54
    go_wp2_with fail
    refine (Hch.out _ hx0.out).mono ?_
    rintro e w1 ⟨rfl, hx1⟩
    have Hx1 := Lib.hid (hx0.out.trans hx1)
    have c0 := hx1.cell (v := .slice none 0 0) (p := ⟨w.heap.size, 0, none⟩) (by simp)
    have c1' := hx1.cell (v := .slice A g.length cap) (p := ⟨w.heap.size + 1, 0, none⟩) (by simp)
    have f0 : w1.frozen? ⟨w.heap.size, 0, none⟩ = false := hx1.frozen (v := .slice none 0 0) (p := ⟨w.heap.size, 0, none⟩) (by simp) (by simp)
    have l0 := cell_lt c0
    have l1 := cell_lt c1'
    clear hx1
    go_wp2_with fail
    exact bodyPost_ret (v := .tuple #[.agg #[.slice A g.length cap], .int .i64 30]) (by simp [results, Tryz.results54, go_sem, c0]) rfl ⟨rfl, Hx1.out.setCell (by simp) _⟩
end Go.Proofs.YtldnjnnhfeobdaaGreatDoor
