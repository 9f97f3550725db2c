/- Parts of the proof, joined: Contract: the rule on object types. Conditions: lengths below 2^20; Contract: the table of the rules. No condition; Plain theory: classes by refinement over an abstract graph. No program. No condition; Plain theory: the search for the least way that tells two types apart. No program. No condition; Plain functions on graphs: references, what is fine. No program. No condition; Plain functions on graphs: references, agreement, what is right, what is well-formed. No program. No condition; Contract: the rule of a type's kind. Conditions: lengths below 2^20; Contract: right. Conditions: lengths below 2^20. -/
import Derived.Laws.EntriesVeiled
import Derived.Deep.DeepCutAuto
import Derived.StillTailTactics
import Derived.IntWalk
import Derived.Test.YtldnjnnhfeobdaaGreatDoorB2
import Derived.Test.YtldnjnnhfeobdaaGreatDoorB1
namespace Go.Proofs.YtldnjnnhfeobdaaGreatDoor
set_option linter.all false
set_option linter.unusedSimpArgs false
set_option linter.unusedVariables false
open Go.RowKit Go.Shelf


def objectsB (g : Graph) (t : Ty) : Bool := brandedB g.length t && (differentB (t.parts.map Part.name) 8 && objectB g t)
def noObject (t : Ty) : Ty := { noBrand t with parts := [], methods := [], overs := [], super := 0 }
theorem TySmall.noBrand {t : Ty} (h : TySmall t) : TySmall (noBrand t) := ⟨by show ByteArray.empty.size ≤ _; simp, h.opaq, h.parts, h.part, h.methods, h.method, h.overs, h.over⟩
theorem TyOf.noBrand {w : World} {t : Ty} {vp vm vo : Value} (h : TyOf w t vp vm vo) : TyOf w (noBrand t) vp vm vo := ⟨h.parts, h.methods, h.overs⟩

set_option maxRecDepth 100000 in
set_option maxHeartbeats 8000000 in
theorem objects_rule : Rule 159 objectsB noObject := by
  intro w0 w gv g b t vp vm vo hx hB hG hg hgn hof hs hb
  obtain ⟨A, cap, rfl⟩ := hg.len
  obtain ⟨A1, cap1, rfl⟩ := hof.parts.len
  obtain ⟨A2, cap2, rfl⟩ := hof.methods.len
  obtain ⟨A3, cap3, rfl⟩ := hof.overs.len
  have hlt := hb.lt
  unfold objectsB
  have hfin : ∀ w1 : World, Ext w0 w1 → TyBox w1 b (noBrand t) (.slice A1 t.parts.length cap1) (.slice A2 t.methods.length cap2) (.slice A3 t.overs.length cap3) → ∀ r, RulePost w0 b r (noObject t) (.returned (.bool r))
      ((((w1.setCell ⟨b, 7, none⟩ (.slice none 0 0)).setCell ⟨b, 8, none⟩ (.slice none 0 0)).setCell ⟨b, 9, none⟩ (.slice none 0 0)).setCell ⟨b, 6, none⟩ (.int .i64 0)) := fun w1 h1 h2 r => by
    have s1 := TyBox.set h1 hB h2 7 (.slice none 0 0)
    have s2 := TyBox.set s1.1 hB s1.2 8 (.slice none 0 0)
    have s3 := TyBox.set s2.1 hB s2.2 9 (.slice none 0 0)
    have s4 := TyBox.set s3.1 hB s3.2 6 (.int .i64 0)
    exact ⟨rfl, s4.1, _, _, _, s4.2, Len.nil, Len.nil, Len.nil⟩
  have hbr := branded_any (w.alloc (.cells #[.slice A g.length cap] 77)).drew A g.length cap b t _ _ _ hgn hs.brand (hof.parts.mono (hx.alloc _).drew) hs.parts (hb.ext ((Ext.refl _).alloc _).drew)
  have htur := fun (w1 : World) (h1 : Ext w0 w1) => turned_part_str 194 #[] w1 _ t.parts Part.name (hof.parts.mono h1) hs.parts (map194 w1 t.parts)
  have hdif := fun (w1 : World) (v : Value) (h1 : Sl strE w1 v (t.parts.map Part.name)) => different_any w1 v (t.parts.map Part.name) 8 h1 (by simpa using hs.parts) (small_names hs)
  have hobj := fun (w1 : World) (h1 : Ext w0 w1) => object_any w1 _ g (noBrand t) _ _ _ (hg.mono h1) hgn (hG.mono h1) (hof.mono h1).noBrand hs.noBrand
  have hbox : ∀ w1, (w.alloc (.cells #[.slice A g.length cap] 77)).drew.grownBy w1 (some b) → Ext w0 w1 ∧ w1.cell? ⟨w.heap.size, 0, none⟩ = some (.slice A g.length cap) := fun w1 h =>
    ⟨Below.grown (hx.alloc (.cells #[.slice A g.length cap] 77)).drew h (by simp; have := hx.size; omega) (fun k hk => by cases hk; exact hB), h.cell (v := .slice A g.length cap) (by simp) (by simp; omega)⟩
  change ∀ w1, _ → Calls _ _ _ _ (Ret w1 (.bool (objectB g t))) at hobj
  generalize differentB (t.parts.map Part.name) 8 = r2 at hdif ⊢
  generalize objectB g t = r3 at hobj ⊢
  generalize brandedB g.length t = r1 at hbr ⊢
  have Hbr := Lib.hid hbr
  have Hfin := Lib.hid hfin
  have Htur := Lib.hid htur
  have Hdif := Lib.hid hdif
  have Hobj := Lib.hid hobj
  have Hbox := Lib.hid hbox
  have hpn := hs.parts
  clear hx hb hG hg hof hs hbr hfin htur hdif hobj hbox
  cases r1
  · clear Htur Hdif Hobj
    go_enter Tryz.func159, Tryz.ntmps159
    go_wp2_with fail
    refine wp_region_anyX (by kernel_rfl) ?_
    refine any_val (i := 1) (v := ?_) (some 7) #[false, true, false, false, false, false, false, false, false, false, false, false, false, false, false, false, false, false, false] rfl rfl rfl (by kernel_rfl) (by kernel_rfl) (by kernel_rfl) (fun _ _ _ h => h) (Or.inl ⟨by rfl, ?_⟩) ?_
    rotate_left
    · intro w
      go_simp
      (first | done | exact rfl)
    simp only [Act.put, List.setIfInBounds_toArray, List.set_cons_zero, List.set_cons_succ]
    refine wpAny_ready (rs := [0]) (by kernel_rfl) (by simp) (AllReady.cons rfl (fun K hK => ?_) AllReady.nil)
    go_simp
    refine hK _ _ ?_
    clear hK K
    refine wpAny_ready (rs := [2]) (by kernel_rfl) (by simp) (AllReady.cons rfl (fun K hK => ?_) AllReady.nil)
    go_simp
    refine Hbr.out.mono ?_
    rintro e w1 ⟨rfl, hb1, hg1⟩
    obtain ⟨hx1, hc1⟩ := Hbox.out w1 hg1
    have Hx1 := Lib.hid hx1
    have Hb1 := Lib.hid hb1
    have c7 := hb1.at.c7
    simp only [Nat.zero_add] at c7
    clear hb1 hg1 hx1
    refine hK _ _ ?_
    clear hK K
    refine any_val (i := 3) (v := ?_) (some 9) #[true, true, true, true, false, false, false, false, false, false, false, false, false, false, false, false, false, false, false] rfl rfl rfl (by kernel_rfl) (by kernel_rfl) (by kernel_rfl) (fun _ _ _ h => h) (Or.inl ⟨by rfl, ?_⟩) ?_
    rotate_left
    · intro w
      go_simp
      (first | done | exact rfl)
    simp only [Act.put, List.setIfInBounds_toArray, List.set_cons_zero, List.set_cons_succ]
    refine any_val (i := 4) (v := undef) (some 10) #[true, true, true, true, true, false, false, false, false, false, false, false, false, false, false, false, false, false, false] rfl rfl rfl (by kernel_rfl) (by kernel_rfl) (by kernel_rfl) (fun _ _ _ h => h) (Or.inr ⟨by rfl, rfl⟩) ?_
    simp only [Act.put, List.setIfInBounds_toArray, List.set_cons_zero, List.set_cons_succ]
    refine any_val (i := 5) (v := undef) (some 11) #[true, true, true, true, true, true, false, false, false, false, false, false, false, false, false, false, false, false, false] rfl rfl rfl (by kernel_rfl) (by kernel_rfl) (by kernel_rfl) (fun _ _ _ h => h) (Or.inr ⟨by rfl, rfl⟩) ?_
    simp only [Act.put, List.setIfInBounds_toArray, List.set_cons_zero, List.set_cons_succ]
    refine any_val (i := 6) (v := undef) (some 12) #[true, true, true, true, true, true, true, false, false, false, false, false, false, false, false, false, false, false, false] rfl rfl rfl (by kernel_rfl) (by kernel_rfl) (by kernel_rfl) (fun _ _ _ h => h) (Or.inr ⟨by rfl, rfl⟩) ?_
    simp only [Act.put, List.setIfInBounds_toArray, List.set_cons_zero, List.set_cons_succ]
    refine any_val (i := 7) (v := undef) (some 13) #[true, true, true, true, true, true, true, true, false, false, false, false, false, false, false, false, false, false, false] rfl rfl rfl (by kernel_rfl) (by kernel_rfl) (by kernel_rfl) (fun _ _ _ h => h) (Or.inr ⟨by rfl, rfl⟩) ?_
    simp only [Act.put, List.setIfInBounds_toArray, List.set_cons_zero, List.set_cons_succ]
    refine any_val (i := 8) (v := undef) (some 14) #[true, true, true, true, true, true, true, true, true, false, false, false, false, false, false, false, false, false, false] rfl rfl rfl (by kernel_rfl) (by kernel_rfl) (by kernel_rfl) (fun _ _ _ h => h) (Or.inr ⟨by rfl, rfl⟩) ?_
    simp only [Act.put, List.setIfInBounds_toArray, List.set_cons_zero, List.set_cons_succ]
    refine any_val (i := 9) (v := undef) (some 15) #[true, true, true, true, true, true, true, true, true, true, false, false, false, false, false, false, false, false, false] rfl rfl rfl (by kernel_rfl) (by kernel_rfl) (by kernel_rfl) (fun _ _ _ h => h) (Or.inr ⟨by rfl, rfl⟩) ?_
    simp only [Act.put, List.setIfInBounds_toArray, List.set_cons_zero, List.set_cons_succ]
    refine any_val (i := 10) (v := ?_) (some 16) #[true, true, true, true, true, true, true, true, true, true, true, false, false, false, false, false, false, false, false] rfl rfl rfl (by kernel_rfl) (by kernel_rfl) (by kernel_rfl) (fun _ _ _ h => h) (Or.inl ⟨by rfl, ?_⟩) ?_
    rotate_left
    · intro w
      go_simp
      (first | done | exact rfl)
    simp only [Act.put, List.setIfInBounds_toArray, List.set_cons_zero, List.set_cons_succ]
    refine any_val (i := 11) (v := ?_) (some 17) #[true, true, true, true, true, true, true, true, true, true, true, true, false, false, false, false, false, false, false] rfl rfl rfl (by kernel_rfl) (by kernel_rfl) (by kernel_rfl) (fun _ _ _ h => h) (Or.inl ⟨by rfl, ?_⟩) ?_
    rotate_left
    · intro w
      go_simp
      (first | done | exact rfl)
    simp only [Act.put, List.setIfInBounds_toArray, List.set_cons_zero, List.set_cons_succ]
    refine any_val (i := 12) (v := undef) (some 18) #[true, true, true, true, true, true, true, true, true, true, true, true, true, false, false, false, false, false, false] rfl rfl rfl (by kernel_rfl) (by kernel_rfl) (by kernel_rfl) (fun _ _ _ h => h) (Or.inr ⟨by rfl, rfl⟩) ?_
    simp only [Act.put, List.setIfInBounds_toArray, List.set_cons_zero, List.set_cons_succ]
    refine any_val (i := 13) (v := undef) (some 19) #[true, true, true, true, true, true, true, true, true, true, true, true, true, true, false, false, false, false, false] rfl rfl rfl (by kernel_rfl) (by kernel_rfl) (by kernel_rfl) (fun _ _ _ h => h) (Or.inr ⟨by rfl, rfl⟩) ?_
    simp only [Act.put, List.setIfInBounds_toArray, List.set_cons_zero, List.set_cons_succ]
    refine any_val (i := 14) (v := undef) (some 20) #[true, true, true, true, true, true, true, true, true, true, true, true, true, true, true, false, false, false, false] rfl rfl rfl (by kernel_rfl) (by kernel_rfl) (by kernel_rfl) (fun _ _ _ h => h) (Or.inr ⟨by rfl, rfl⟩) ?_
    simp only [Act.put, List.setIfInBounds_toArray, List.set_cons_zero, List.set_cons_succ]
    refine any_val (i := 15) (v := undef) (some 21) #[true, true, true, true, true, true, true, true, true, true, true, true, true, true, true, true, false, false, false] rfl rfl rfl (by kernel_rfl) (by kernel_rfl) (by kernel_rfl) (fun _ _ _ h => h) (Or.inr ⟨by rfl, rfl⟩) ?_
    simp only [Act.put, List.setIfInBounds_toArray, List.set_cons_zero, List.set_cons_succ]
    refine any_val (i := 16) (v := undef) (some 22) #[true, true, true, true, true, true, true, true, true, true, true, true, true, true, true, true, true, false, false] rfl rfl rfl (by kernel_rfl) (by kernel_rfl) (by kernel_rfl) (fun _ _ _ h => h) (Or.inr ⟨by rfl, rfl⟩) ?_
    simp only [Act.put, List.setIfInBounds_toArray, List.set_cons_zero, List.set_cons_succ]
    refine any_val (i := 17) (v := ?_) (some 23) #[true, true, true, true, true, true, true, true, true, true, true, true, true, true, true, true, true, true, false] rfl rfl rfl (by kernel_rfl) (by kernel_rfl) (by kernel_rfl) (fun _ _ _ h => h) (Or.inl ⟨by rfl, ?_⟩) ?_
    rotate_left
    · intro w
      go_simp
      (first | done | exact rfl)
    simp only [Act.put, List.setIfInBounds_toArray, List.set_cons_zero, List.set_cons_succ]
    refine any_val (i := 18) (v := ?_) (some 5) #[true, true, true, true, true, true, true, true, true, true, true, true, true, true, true, true, true, true, true] rfl rfl rfl (by kernel_rfl) (by kernel_rfl) (by kernel_rfl) (fun _ _ _ h => h) (Or.inl ⟨by rfl, ?_⟩) ?_
    rotate_left
    · intro w
      go_simp
      (first | done | exact rfl)
    simp only [Act.put, List.setIfInBounds_toArray, List.set_cons_zero, List.set_cons_succ]
    refine wpAny_done (by kernel_rfl) ?_ _
    have f6 := heap_frozen Hb1.out 6
    have f7 := heap_frozen Hb1.out 7
    have f8 := heap_frozen Hb1.out 8
    have f9 := heap_frozen Hb1.out 9
    obtain ⟨_, _, _, _, _, _, d6, d7, d8, d9⟩ := Hb1.out.at
    simp only [Nat.zero_add] at d6 d7 d8 d9
    go_wp2_with fail
    go_ret
    exact Hfin.out _ Hx1.out Hb1.out _
  · cases r2
    · clear Hobj
      go_enter Tryz.func159, Tryz.ntmps159
      go_wp2_with fail
      refine wp_region_anyX (by kernel_rfl) ?_
      refine any_val (i := 1) (v := ?_) (some 7) #[false, true, false, false, false, false, false, false, false, false, false, false, false, false, false, false, false, false, false] rfl rfl rfl (by kernel_rfl) (by kernel_rfl) (by kernel_rfl) (fun _ _ _ h => h) (Or.inl ⟨by rfl, ?_⟩) ?_
      rotate_left
      · intro w
        go_simp
        (first | done | exact rfl)
      simp only [Act.put, List.setIfInBounds_toArray, List.set_cons_zero, List.set_cons_succ]
      refine wpAny_ready (rs := [0]) (by kernel_rfl) (by simp) (AllReady.cons rfl (fun K hK => ?_) AllReady.nil)
      go_simp
      refine hK _ _ ?_
      clear hK K
      refine wpAny_ready (rs := [2]) (by kernel_rfl) (by simp) (AllReady.cons rfl (fun K hK => ?_) AllReady.nil)
      go_simp
      refine Hbr.out.mono ?_
      rintro e w1 ⟨rfl, hb1, hg1⟩
      obtain ⟨hx1, hc1⟩ := Hbox.out w1 hg1
      have Hx1 := Lib.hid hx1
      have Hb1 := Lib.hid hb1
      have c7 := hb1.at.c7
      simp only [Nat.zero_add] at c7
      clear hb1 hg1 hx1
      refine hK _ _ ?_
      clear hK K
      refine any_val (i := 3) (v := ?_) (some 9) #[true, true, true, true, false, false, false, false, false, false, false, false, false, false, false, false, false, false, false] rfl rfl rfl (by kernel_rfl) (by kernel_rfl) (by kernel_rfl) (fun _ _ _ h => h) (Or.inl ⟨by rfl, ?_⟩) ?_
      rotate_left
      · intro w
        go_simp
        (first | done | exact rfl)
      simp only [Act.put, List.setIfInBounds_toArray, List.set_cons_zero, List.set_cons_succ]
      refine any_val (i := 4) (v := ?_) (some 10) #[true, true, true, true, true, false, false, false, false, false, false, false, false, false, false, false, false, false, false] rfl rfl rfl (by kernel_rfl) (by kernel_rfl) (by kernel_rfl) (fun _ _ _ h => h) (Or.inl ⟨by rfl, ?_⟩) ?_
      rotate_left
      · intro w
        go_simp
        (first | done | exact rfl)
      simp only [Act.put, List.setIfInBounds_toArray, List.set_cons_zero, List.set_cons_succ]
      refine any_val (i := 5) (v := ?_) (some 11) #[true, true, true, true, true, true, false, false, false, false, false, false, false, false, false, false, false, false, false] rfl rfl rfl (by kernel_rfl) (by kernel_rfl) (by kernel_rfl) (fun _ _ _ h => h) (Or.inl ⟨by rfl, ?_⟩) ?_
      rotate_left
      · intro w
        go_simp
        (first | done | exact rfl)
      simp only [Act.put, List.setIfInBounds_toArray, List.set_cons_zero, List.set_cons_succ]
      refine any_val (i := 6) (v := ?_) (some 12) #[true, true, true, true, true, true, true, false, false, false, false, false, false, false, false, false, false, false, false] rfl rfl rfl (by kernel_rfl) (by kernel_rfl) (by kernel_rfl) (fun _ _ _ h => h) (Or.inl ⟨by rfl, ?_⟩) ?_
      rotate_left
      · intro w
        go_simp
        (first | done | exact rfl)
      simp only [Act.put, List.setIfInBounds_toArray, List.set_cons_zero, List.set_cons_succ]
      refine wpAny_ready (rs := [7]) (by kernel_rfl) (by simp) (AllReady.cons rfl (fun K hK => ?_) AllReady.nil)
      go_simp
      refine hK _ _ ?_
      clear hK K
      refine wpAny_ready (rs := [8]) (by kernel_rfl) (by simp) (AllReady.cons rfl (fun K hK => ?_) AllReady.nil)
      go_simp
      refine (Htur.out _ Hx1.out).mono ?_
      rintro e w2 ⟨v2, rfl, hs2, hx2⟩
      have hsl := hs2.any
      obtain ⟨Av, capv, e2⟩ := hsl.len
      rw [List.length_map] at e2
      subst e2
      have Hx2 := Lib.hid (Hx1.out.trans hx2)
      have Hb2 := Lib.hid (Hb1.out.ext hx2)
      have hc2 := hx2.cell hc1
      have Hsl := Lib.hid hsl
      clear hs2 hsl hx2 c7 hc1
      refine hK _ _ ?_
      clear hK K
      refine wpAny_ready (rs := [9]) (by kernel_rfl) (by simp) (AllReady.cons rfl (fun K hK => ?_) AllReady.nil)
      go_simp
      refine (Hdif.out _ _ Hsl.out).mono ?_
      rintro e w3 ⟨rfl, hx3⟩
      have Hx3 := Lib.hid (Hx2.out.trans hx3)
      have Hb3 := Lib.hid (Hb2.out.ext hx3)
      have hc3 := hx3.cell hc2
      obtain ⟨b0, b1, b2, b3, b4, b5, b6, b7, b8, b9⟩ := Hb3.out.at
      simp only [Nat.zero_add] at b0 b1 b2 b3 b4 b5 b6 b7 b8 b9
      clear hx3 hc2
      refine hK _ _ ?_
      clear hK K
      refine any_val (i := 10) (v := ?_) (some 16) #[true, true, true, true, true, true, true, true, true, true, true, false, false, false, false, false, false, false, false] rfl rfl rfl (by kernel_rfl) (by kernel_rfl) (by kernel_rfl) (fun _ _ _ h => h) (Or.inl ⟨by rfl, ?_⟩) ?_
      rotate_left
      · intro w
        go_simp
        (first | done | exact rfl)
      simp only [Act.put, List.setIfInBounds_toArray, List.set_cons_zero, List.set_cons_succ]
      refine any_val (i := 11) (v := ?_) (some 17) #[true, true, true, true, true, true, true, true, true, true, true, true, false, false, false, false, false, false, false] rfl rfl rfl (by kernel_rfl) (by kernel_rfl) (by kernel_rfl) (fun _ _ _ h => h) (Or.inl ⟨by rfl, ?_⟩) ?_
      rotate_left
      · intro w
        go_simp
        (first | done | exact rfl)
      simp only [Act.put, List.setIfInBounds_toArray, List.set_cons_zero, List.set_cons_succ]
      refine any_val (i := 12) (v := undef) (some 18) #[true, true, true, true, true, true, true, true, true, true, true, true, true, false, false, false, false, false, false] rfl rfl rfl (by kernel_rfl) (by kernel_rfl) (by kernel_rfl) (fun _ _ _ h => h) (Or.inr ⟨by rfl, rfl⟩) ?_
      simp only [Act.put, List.setIfInBounds_toArray, List.set_cons_zero, List.set_cons_succ]
      refine any_val (i := 13) (v := undef) (some 19) #[true, true, true, true, true, true, true, true, true, true, true, true, true, true, false, false, false, false, false] rfl rfl rfl (by kernel_rfl) (by kernel_rfl) (by kernel_rfl) (fun _ _ _ h => h) (Or.inr ⟨by rfl, rfl⟩) ?_
      simp only [Act.put, List.setIfInBounds_toArray, List.set_cons_zero, List.set_cons_succ]
      refine any_val (i := 14) (v := undef) (some 20) #[true, true, true, true, true, true, true, true, true, true, true, true, true, true, true, false, false, false, false] rfl rfl rfl (by kernel_rfl) (by kernel_rfl) (by kernel_rfl) (fun _ _ _ h => h) (Or.inr ⟨by rfl, rfl⟩) ?_
      simp only [Act.put, List.setIfInBounds_toArray, List.set_cons_zero, List.set_cons_succ]
      refine any_val (i := 15) (v := undef) (some 21) #[true, true, true, true, true, true, true, true, true, true, true, true, true, true, true, true, false, false, false] rfl rfl rfl (by kernel_rfl) (by kernel_rfl) (by kernel_rfl) (fun _ _ _ h => h) (Or.inr ⟨by rfl, rfl⟩) ?_
      simp only [Act.put, List.setIfInBounds_toArray, List.set_cons_zero, List.set_cons_succ]
      refine any_val (i := 16) (v := undef) (some 22) #[true, true, true, true, true, true, true, true, true, true, true, true, true, true, true, true, true, false, false] rfl rfl rfl (by kernel_rfl) (by kernel_rfl) (by kernel_rfl) (fun _ _ _ h => h) (Or.inr ⟨by rfl, rfl⟩) ?_
      simp only [Act.put, List.setIfInBounds_toArray, List.set_cons_zero, List.set_cons_succ]
      refine any_val (i := 17) (v := ?_) (some 23) #[true, true, true, true, true, true, true, true, true, true, true, true, true, true, true, true, true, true, false] rfl rfl rfl (by kernel_rfl) (by kernel_rfl) (by kernel_rfl) (fun _ _ _ h => h) (Or.inl ⟨by rfl, ?_⟩) ?_
      rotate_left
      · intro w
        go_simp
        (first | done | exact rfl)
      simp only [Act.put, List.setIfInBounds_toArray, List.set_cons_zero, List.set_cons_succ]
      refine any_val (i := 18) (v := ?_) (some 5) #[true, true, true, true, true, true, true, true, true, true, true, true, true, true, true, true, true, true, true] rfl rfl rfl (by kernel_rfl) (by kernel_rfl) (by kernel_rfl) (fun _ _ _ h => h) (Or.inl ⟨by rfl, ?_⟩) ?_
      rotate_left
      · intro w
        go_simp
        (first | done | exact rfl)
      simp only [Act.put, List.setIfInBounds_toArray, List.set_cons_zero, List.set_cons_succ]
      refine wpAny_done (by kernel_rfl) ?_ _
      have f6 := heap_frozen Hb3.out 6
      have f7 := heap_frozen Hb3.out 7
      have f8 := heap_frozen Hb3.out 8
      have f9 := heap_frozen Hb3.out 9
      obtain ⟨_, _, _, _, _, _, d6, d7, d8, d9⟩ := Hb3.out.at
      simp only [Nat.zero_add] at d6 d7 d8 d9
      go_wp2_with fail
      go_ret
      exact Hfin.out _ Hx3.out Hb3.out _
    · skip
      go_enter Tryz.func159, Tryz.ntmps159
      go_wp2_with fail
      refine wp_region_anyX (by kernel_rfl) ?_
      refine any_val (i := 1) (v := ?_) (some 7) #[false, true, false, false, false, false, false, false, false, false, false, false, false, false, false, false, false, false, false] rfl rfl rfl (by kernel_rfl) (by kernel_rfl) (by kernel_rfl) (fun _ _ _ h => h) (Or.inl ⟨by rfl, ?_⟩) ?_
      rotate_left
      · intro w
        go_simp
        (first | done | exact rfl)
      simp only [Act.put, List.setIfInBounds_toArray, List.set_cons_zero, List.set_cons_succ]
      refine wpAny_ready (rs := [0]) (by kernel_rfl) (by simp) (AllReady.cons rfl (fun K hK => ?_) AllReady.nil)
      go_simp
      refine hK _ _ ?_
      clear hK K
      refine wpAny_ready (rs := [2]) (by kernel_rfl) (by simp) (AllReady.cons rfl (fun K hK => ?_) AllReady.nil)
      go_simp
      refine Hbr.out.mono ?_
      rintro e w1 ⟨rfl, hb1, hg1⟩
      obtain ⟨hx1, hc1⟩ := Hbox.out w1 hg1
      have Hx1 := Lib.hid hx1
      have Hb1 := Lib.hid hb1
      have c7 := hb1.at.c7
      simp only [Nat.zero_add] at c7
      clear hb1 hg1 hx1
      refine hK _ _ ?_
      clear hK K
      refine any_val (i := 3) (v := ?_) (some 9) #[true, true, true, true, false, false, false, false, false, false, false, false, false, false, false, false, false, false, false] rfl rfl rfl (by kernel_rfl) (by kernel_rfl) (by kernel_rfl) (fun _ _ _ h => h) (Or.inl ⟨by rfl, ?_⟩) ?_
      rotate_left
      · intro w
        go_simp
        (first | done | exact rfl)
      simp only [Act.put, List.setIfInBounds_toArray, List.set_cons_zero, List.set_cons_succ]
      refine any_val (i := 4) (v := ?_) (some 10) #[true, true, true, true, true, false, false, false, false, false, false, false, false, false, false, false, false, false, false] rfl rfl rfl (by kernel_rfl) (by kernel_rfl) (by kernel_rfl) (fun _ _ _ h => h) (Or.inl ⟨by rfl, ?_⟩) ?_
      rotate_left
      · intro w
        go_simp
        (first | done | exact rfl)
      simp only [Act.put, List.setIfInBounds_toArray, List.set_cons_zero, List.set_cons_succ]
      refine any_val (i := 5) (v := ?_) (some 11) #[true, true, true, true, true, true, false, false, false, false, false, false, false, false, false, false, false, false, false] rfl rfl rfl (by kernel_rfl) (by kernel_rfl) (by kernel_rfl) (fun _ _ _ h => h) (Or.inl ⟨by rfl, ?_⟩) ?_
      rotate_left
      · intro w
        go_simp
        (first | done | exact rfl)
      simp only [Act.put, List.setIfInBounds_toArray, List.set_cons_zero, List.set_cons_succ]
      refine any_val (i := 6) (v := ?_) (some 12) #[true, true, true, true, true, true, true, false, false, false, false, false, false, false, false, false, false, false, false] rfl rfl rfl (by kernel_rfl) (by kernel_rfl) (by kernel_rfl) (fun _ _ _ h => h) (Or.inl ⟨by rfl, ?_⟩) ?_
      rotate_left
      · intro w
        go_simp
        (first | done | exact rfl)
      simp only [Act.put, List.setIfInBounds_toArray, List.set_cons_zero, List.set_cons_succ]
      refine wpAny_ready (rs := [7]) (by kernel_rfl) (by simp) (AllReady.cons rfl (fun K hK => ?_) AllReady.nil)
      go_simp
      refine hK _ _ ?_
      clear hK K
      refine wpAny_ready (rs := [8]) (by kernel_rfl) (by simp) (AllReady.cons rfl (fun K hK => ?_) AllReady.nil)
      go_simp
      refine (Htur.out _ Hx1.out).mono ?_
      rintro e w2 ⟨v2, rfl, hs2, hx2⟩
      have hsl := hs2.any
      obtain ⟨Av, capv, e2⟩ := hsl.len
      rw [List.length_map] at e2
      subst e2
      have Hx2 := Lib.hid (Hx1.out.trans hx2)
      have Hb2 := Lib.hid (Hb1.out.ext hx2)
      have hc2 := hx2.cell hc1
      have Hsl := Lib.hid hsl
      clear hs2 hsl hx2 c7 hc1
      refine hK _ _ ?_
      clear hK K
      refine wpAny_ready (rs := [9]) (by kernel_rfl) (by simp) (AllReady.cons rfl (fun K hK => ?_) AllReady.nil)
      go_simp
      refine (Hdif.out _ _ Hsl.out).mono ?_
      rintro e w3 ⟨rfl, hx3⟩
      have Hx3 := Lib.hid (Hx2.out.trans hx3)
      have Hb3 := Lib.hid (Hb2.out.ext hx3)
      have hc3 := hx3.cell hc2
      obtain ⟨b0, b1, b2, b3, b4, b5, b6, b7, b8, b9⟩ := Hb3.out.at
      simp only [Nat.zero_add] at b0 b1 b2 b3 b4 b5 b6 b7 b8 b9
      clear hx3 hc2
      refine hK _ _ ?_
      clear hK K
      refine any_val (i := 10) (v := ?_) (some 16) #[true, true, true, true, true, true, true, true, true, true, true, false, false, false, false, false, false, false, false] rfl rfl rfl (by kernel_rfl) (by kernel_rfl) (by kernel_rfl) (fun _ _ _ h => h) (Or.inl ⟨by rfl, ?_⟩) ?_
      rotate_left
      · intro w
        go_simp
        (first | done | exact rfl)
      simp only [Act.put, List.setIfInBounds_toArray, List.set_cons_zero, List.set_cons_succ]
      refine any_val (i := 11) (v := ?_) (some 17) #[true, true, true, true, true, true, true, true, true, true, true, true, false, false, false, false, false, false, false] rfl rfl rfl (by kernel_rfl) (by kernel_rfl) (by kernel_rfl) (fun _ _ _ h => h) (Or.inl ⟨by rfl, ?_⟩) ?_
      rotate_left
      · intro w
        go_simp
        (first | done | exact rfl)
      simp only [Act.put, List.setIfInBounds_toArray, List.set_cons_zero, List.set_cons_succ]
      refine any_val (i := 13) (v := ?_) (some 19) #[true, true, true, true, true, true, true, true, true, true, true, true, false, true, false, false, false, false, false] rfl rfl rfl (by kernel_rfl) (by kernel_rfl) (by kernel_rfl) (fun _ _ _ h => h) (Or.inl ⟨by rfl, ?_⟩) ?_
      rotate_left
      · intro w
        go_simp
        (first | done | exact rfl)
      simp only [Act.put, List.setIfInBounds_toArray, List.set_cons_zero, List.set_cons_succ]
      refine any_val (i := 14) (v := ?_) (some 20) #[true, true, true, true, true, true, true, true, true, true, true, true, false, true, true, false, false, false, false] rfl rfl rfl (by kernel_rfl) (by kernel_rfl) (by kernel_rfl) (fun _ _ _ h => h) (Or.inl ⟨by rfl, ?_⟩) ?_
      rotate_left
      · intro w
        go_simp
        (first | done | exact rfl)
      simp only [Act.put, List.setIfInBounds_toArray, List.set_cons_zero, List.set_cons_succ]
      refine wpAny_ready (rs := [12, 15]) (by kernel_rfl) (by simp) (AllReady.cons rfl (fun K hK => ?_) (AllReady.cons rfl (fun K hK => ?_) AllReady.nil))
      · go_simp
        refine hK _ _ ?_
        clear hK K
        refine wpAny_ready (rs := [15]) (by kernel_rfl) (by simp) (AllReady.cons rfl (fun K hK => ?_) AllReady.nil)
        go_simp
        refine hK _ _ ?_
        clear hK K
        refine wpAny_ready (rs := [16]) (by kernel_rfl) (by simp) (AllReady.cons rfl (fun K hK => ?_) AllReady.nil)
        go_simp
        refine (Hobj.out _ Hx3.out).mono ?_
        rintro e w4 ⟨rfl, hx4⟩
        have Hx4 := Lib.hid (Hx3.out.trans hx4)
        have Hb4 := Lib.hid (Hb3.out.ext hx4)
        clear hx4 b0 b1 b2 b3 b4 b5 b6 b7 b8 b9
        refine hK _ _ ?_
        clear hK K
        refine any_val (i := 17) (v := ?_) (some 23) #[true, true, true, true, true, true, true, true, true, true, true, true, true, true, true, true, true, true, false] rfl rfl rfl (by kernel_rfl) (by kernel_rfl) (by kernel_rfl) (fun _ _ _ h => h) (Or.inl ⟨by rfl, ?_⟩) ?_
        rotate_left
        · intro w
          go_simp
          (first | done | exact rfl)
        simp only [Act.put, List.setIfInBounds_toArray, List.set_cons_zero, List.set_cons_succ]
        refine any_val (i := 18) (v := ?_) (some 5) #[true, true, true, true, true, true, true, true, true, true, true, true, true, true, true, true, true, true, true] rfl rfl rfl (by kernel_rfl) (by kernel_rfl) (by kernel_rfl) (fun _ _ _ h => h) (Or.inl ⟨by rfl, ?_⟩) ?_
        rotate_left
        · intro w
          go_simp
          (first | done | exact rfl)
        simp only [Act.put, List.setIfInBounds_toArray, List.set_cons_zero, List.set_cons_succ]
        refine wpAny_done (by kernel_rfl) ?_ _
        have f6 := heap_frozen Hb4.out 6
        have f7 := heap_frozen Hb4.out 7
        have f8 := heap_frozen Hb4.out 8
        have f9 := heap_frozen Hb4.out 9
        obtain ⟨_, _, _, _, _, _, d6, d7, d8, d9⟩ := Hb4.out.at
        simp only [Nat.zero_add] at d6 d7 d8 d9
        go_wp2_with fail
        go_ret
        exact Hfin.out _ Hx4.out Hb4.out _
      · go_simp
        refine hK _ _ ?_
        clear hK K
        refine wpAny_ready (rs := [12]) (by kernel_rfl) (by simp) (AllReady.cons rfl (fun K hK => ?_) AllReady.nil)
        go_simp
        refine hK _ _ ?_
        clear hK K
        refine wpAny_ready (rs := [16]) (by kernel_rfl) (by simp) (AllReady.cons rfl (fun K hK => ?_) AllReady.nil)
        go_simp
        refine (Hobj.out _ Hx3.out).mono ?_
        rintro e w4 ⟨rfl, hx4⟩
        have Hx4 := Lib.hid (Hx3.out.trans hx4)
        have Hb4 := Lib.hid (Hb3.out.ext hx4)
        clear hx4 b0 b1 b2 b3 b4 b5 b6 b7 b8 b9
        refine hK _ _ ?_
        clear hK K
        refine any_val (i := 17) (v := ?_) (some 23) #[true, true, true, true, true, true, true, true, true, true, true, true, true, true, true, true, true, true, false] rfl rfl rfl (by kernel_rfl) (by kernel_rfl) (by kernel_rfl) (fun _ _ _ h => h) (Or.inl ⟨by rfl, ?_⟩) ?_
        rotate_left
        · intro w
          go_simp
          (first | done | exact rfl)
        simp only [Act.put, List.setIfInBounds_toArray, List.set_cons_zero, List.set_cons_succ]
        refine any_val (i := 18) (v := ?_) (some 5) #[true, true, true, true, true, true, true, true, true, true, true, true, true, true, true, true, true, true, true] rfl rfl rfl (by kernel_rfl) (by kernel_rfl) (by kernel_rfl) (fun _ _ _ h => h) (Or.inl ⟨by rfl, ?_⟩) ?_
        rotate_left
        · intro w
          go_simp
          (first | done | exact rfl)
        simp only [Act.put, List.setIfInBounds_toArray, List.set_cons_zero, List.set_cons_succ]
        refine wpAny_done (by kernel_rfl) ?_ _
        have f6 := heap_frozen Hb4.out 6
        have f7 := heap_frozen Hb4.out 7
        have f8 := heap_frozen Hb4.out 8
        have f9 := heap_frozen Hb4.out 9
        obtain ⟨_, _, _, _, _, _, d6, d7, d8, d9⟩ := Hb4.out.at
        simp only [Nat.zero_add] at d6 d7 d8 d9
        go_wp2_with fail
        go_ret
        exact Hfin.out _ Hx4.out Hb4.out _
end Go.Proofs.YtldnjnnhfeobdaaGreatDoor
/- Contract: the table of the rules. No condition. -/
namespace Go.Proofs.YtldnjnnhfeobdaaGreatDoor
set_option linter.all false
set_option linter.unusedSimpArgs false
set_option linter.unusedVariables false
open Go.RowKit Go.Shelf

def fn (n : Nat) : Value := .func (.func n) #[] #[]
def rulesV : Value := .agg #[.nilFunc, fn 155, fn 155, fn 156, fn 155, fn 155, fn 155, fn 155, fn 155, fn 157, fn 158, fn 157, fn 159, fn 160]
set_option maxRecDepth 100000 in
set_option maxHeartbeats 1000000 in
theorem rules_any (w : World) : Calls Tryz.prog 116 #[] w (Ret w rulesV) := by
  go_enter Tryz.func116, Tryz.ntmps116
  go_wp2_with fail
  exact bodyPost_ret (v := rulesV) (by simp [results, Tryz.results116, go_sem, rulesV, fn]) rfl ⟨rfl, ((Ext.refl _).alloc _)⟩
end Go.Proofs.YtldnjnnhfeobdaaGreatDoor
/- Plain theory: classes by refinement over an abstract graph. No program. No condition. -/
namespace Go.Proofs.YtldnjnnhfeobdaaGreatDoor
set_option linter.all false
set_option linter.unusedSimpArgs false
set_option linter.unusedVariables false

/-- the least k below i that stands for itself and has p, or i -/
def pickL (c : List Nat) (p : Nat → Bool) (i : Nat) : Nat := ((List.range i).find? fun k => c.getD k 0 == k && p k).getD i
def buildL (q : Nat → Nat → Bool) : Nat → List Nat
  | 0 => []
  | n + 1 => buildL q n ++ [pickL (buildL q n) (q n) n]
theorem buildL_length (q : Nat → Nat → Bool) (n : Nat) : (buildL q n).length = n := by
  induction n with
  | zero => rfl
  | succ n ih => simp [buildL, ih]
theorem buildL_take (q : Nat → Nat → Bool) (n i : Nat) (h : i ≤ n) : (buildL q n).take i = buildL q i := by
  induction n with
  | zero => obtain rfl : i = 0 := by omega
            rfl
  | succ n ih =>
    by_cases e : i = n + 1
    · subst e; rw [List.take_of_length_le (by rw [buildL_length]; omega)]
    · rw [buildL, List.take_append_of_le_length (by rw [buildL_length]; omega)]
      exact ih (by omega)
theorem buildL_getD (q : Nat → Nat → Bool) (n i : Nat) (h : i < n) : (buildL q n).getD i 0 = pickL (buildL q i) (q i) i := by
  have h1 := buildL_take q n (i + 1) h
  have h2 : ((buildL q n).take (i + 1)).getD i 0 = (buildL q n).getD i 0 := by
    simp only [List.getD_eq_getElem?_getD]
    rw [List.getElem?_take_of_lt (by omega)]
  rw [← h2, h1, buildL]
  simp only [List.getD_eq_getElem?_getD]
  rw [List.getElem?_append_right (by rw [buildL_length]; omega), buildL_length]
  simp
theorem buildL_getD_lt (q : Nat → Nat → Bool) (n m i : Nat) (h : i < m) (hm : m ≤ n) : (buildL q m).getD i 0 = (buildL q n).getD i 0 := by
  rw [buildL_getD q m i h, buildL_getD q n i (by omega)]

/-- an equivalence on the numbers below n -/
structure EqOn (n : Nat) (q : Nat → Nat → Bool) : Prop where
  refl : ∀ i, i < n → q i i = true
  symm : ∀ i j, i < n → j < n → q i j = true → q j i = true
  trans : ∀ i j k, i < n → j < n → k < n → q i j = true → q j k = true → q i k = true
theorem EqOn.le {n m : Nat} {q : Nat → Nat → Bool} (h : EqOn n q) (hm : m ≤ n) : EqOn m q :=
  ⟨fun i hi => h.refl i (by omega), fun i j hi hj => h.symm i j (by omega) (by omega), fun i j k hi hj hk => h.trans i j k (by omega) (by omega) (by omega)⟩

theorem pickL_le (c : List Nat) (p : Nat → Bool) (i : Nat) : pickL c p i ≤ i := by
  unfold pickL
  cases h : (List.range i).find? fun k => c.getD k 0 == k && p k with
  | none => simp
  | some k => have := List.mem_of_find?_eq_some h; simp at this; simp; omega

theorem pickL_find {c : List Nat} {p : Nat → Bool} {i k : Nat} (hk : k < i) (h1 : c.getD k 0 = k) (h2 : p k = true) (h3 : ∀ j, j < k → ¬ (c.getD j 0 = j ∧ p j = true)) : pickL c p i = k := by
  unfold pickL
  have : (List.range i).find? (fun k => c.getD k 0 == k && p k) = some k := by
    rw [List.find?_eq_some_iff_getElem]
    refine ⟨by simp only [h1, h2]; simp, k, by simpa using hk, by simp, fun j hj => ?_⟩
    have := h3 j hj
    simp only [List.getElem_range, Bool.not_eq_true', Bool.and_eq_false_iff, beq_eq_false_iff_ne, ne_eq]
    by_cases hc : c.getD j 0 = j
    · right; exact Bool.eq_false_iff.2 fun hp => this ⟨hc, hp⟩
    · left; exact hc
  rw [this]; rfl
theorem pickL_none {c : List Nat} {p : Nat → Bool} {i : Nat} (h : ∀ j, j < i → ¬ (c.getD j 0 = j ∧ p j = true)) : pickL c p i = i := by
  unfold pickL
  have : (List.range i).find? (fun k => c.getD k 0 == k && p k) = none := by
    rw [List.find?_eq_none]
    intro j hj
    have := h j (by simpa using hj)
    simpa using this
  rw [this]; rfl

theorem least_exists {p : Nat → Prop} [DecidablePred p] : ∀ n, p n → ∃ m, m ≤ n ∧ p m ∧ ∀ j, j < m → ¬ p j := by
  intro n
  induction n using Nat.strongRecOn with
  | ind n ih =>
    intro h
    by_cases e : ∃ j, j < n ∧ p j
    · obtain ⟨j, hj, hp⟩ := e
      obtain ⟨m, h1, h2, h3⟩ := ih j hj hp
      exact ⟨m, by omega, h2, h3⟩
    · exact ⟨n, Nat.le_refl _, h, fun j hj hp => e ⟨j, hj, hp⟩⟩

/-- what stands at i is the least that is the same -/
theorem buildL_least {n : Nat} {q : Nat → Nat → Bool} (hq : EqOn n q) : ∀ i, i < n → (buildL q n).getD i 0 ≤ i ∧ q i ((buildL q n).getD i 0) = true ∧ ∀ j, j < n → q i j = true → (buildL q n).getD i 0 ≤ j := by
  intro i
  induction i using Nat.strongRecOn with
  | ind i ih =>
    intro hi
    obtain ⟨m, hm, hp, hl⟩ := least_exists (p := fun j => q i j = true) i (hq.refl i hi)
    have key : (buildL q n).getD i 0 = m := by
      rw [buildL_getD q n i hi]
      by_cases e : m = i
      · subst e
        exact pickL_none fun j hj hc => hl j hj hc.2
      · have hmi : m < i := by omega
        refine pickL_find hmi ?_ hp fun j hj hc => hl j hj hc.2
        rw [buildL_getD_lt q n i m hmi (by omega)]
        obtain ⟨h1, h2, h3⟩ := ih m hmi (by omega)
        have h4 : q i ((buildL q n).getD m 0) = true := hq.trans i m _ hi (by omega) (by omega) hp h2
        have : ¬ (buildL q n).getD m 0 < m := fun hlt => hl _ hlt h4
        omega
    rw [key]
    exact ⟨hm, hp, fun j hj hqj => by
      by_cases hlt : j < m
      · exact absurd hqj (hl j hlt)
      · omega⟩
theorem buildL_iff {n : Nat} {q : Nat → Nat → Bool} (hq : EqOn n q) {i j : Nat} (hi : i < n) (hj : j < n) : (buildL q n).getD i 0 = (buildL q n).getD j 0 ↔ q i j = true := by
  obtain ⟨a1, a2, a3⟩ := buildL_least hq i hi
  obtain ⟨b1, b2, b3⟩ := buildL_least hq j hj
  constructor
  · intro h
    rw [h] at a2
    exact hq.trans i _ j hi (by omega) hj a2 (hq.symm _ _ hj (by omega) b2)
  · intro h
    have h1 := a3 _ (by omega) (hq.trans i j _ hi hj (by omega) h b2)
    have h2 := b3 _ (by omega) (hq.trans j i _ hj hi (by omega) (hq.symm _ _ hi hj h) a2)
    omega

/-! ### Refinement -/
/-- each stands for itself, or for a lesser one that does -/
structure Rep (n : Nat) (c : List Nat) : Prop where
  len : c.length = n
  le : ∀ i, i < n → c.getD i 0 ≤ i
  idem : ∀ i, i < n → c.getD (c.getD i 0) 0 = c.getD i 0
theorem buildL_rep {n : Nat} {q : Nat → Nat → Bool} (hq : EqOn n q) : Rep n (buildL q n) :=
  ⟨buildL_length q n, fun i hi => (buildL_least hq i hi).1, fun i hi => by
    obtain ⟨a1, a2, a3⟩ := buildL_least hq i hi
    exact ((buildL_iff hq hi (by omega)).2 a2).symm⟩

def stepQ (rf : Nat → List Nat) (c : List Nat) (i k : Nat) : Bool := c.getD k 0 == c.getD i 0 && decide ((rf i).map (c.getD · 0) = (rf k).map (c.getD · 0))
theorem stepQ_iff {rf : Nat → List Nat} {c : List Nat} {i k : Nat} : stepQ rf c i k = true ↔ c.getD i 0 = c.getD k 0 ∧ (rf i).map (c.getD · 0) = (rf k).map (c.getD · 0) := by
  unfold stepQ
  simp only [Bool.and_eq_true, beq_iff_eq, decide_eq_true_eq]
  exact ⟨fun h => ⟨h.1.symm, h.2⟩, fun h => ⟨h.1.symm, h.2⟩⟩
theorem stepQ_eqOn (rf : Nat → List Nat) (c : List Nat) (n : Nat) : EqOn n (stepQ rf c) :=
  ⟨fun i _ => stepQ_iff.2 ⟨rfl, rfl⟩, fun i j _ _ h => stepQ_iff.2 ⟨(stepQ_iff.1 h).1.symm, (stepQ_iff.1 h).2.symm⟩,
   fun i j k _ _ _ h1 h2 => stepQ_iff.2 ⟨(stepQ_iff.1 h1).1.trans (stepQ_iff.1 h2).1, (stepQ_iff.1 h1).2.trans (stepQ_iff.1 h2).2⟩⟩
def stepL (rf : Nat → List Nat) (n : Nat) (c : List Nat) : List Nat := buildL (stepQ rf c) n
/-- how many do not stand for themselves -/
def rankL (n : Nat) (c : List Nat) : Nat := (List.range n).countP fun i => c.getD i 0 != i

theorem countP_lt_of {α : Type} {p q : α → Bool} : ∀ {l : List α}, (∀ x ∈ l, p x = true → q x = true) → (∃ x ∈ l, q x = true ∧ p x = false) → l.countP p < l.countP q
  | [], _, h => by obtain ⟨x, hx, _⟩ := h; simp at hx
  | a :: l, h, ⟨x, hx, hq, hp⟩ => by
    have hmono : l.countP p ≤ l.countP q := List.countP_mono_left fun y hy => h y (by simp [hy])
    rcases List.mem_cons.1 hx with rfl | hx
    · rw [List.countP_cons_of_neg (by simp [hp]), List.countP_cons_of_pos hq]; omega
    · have := countP_lt_of (l := l) (fun y hy => h y (by simp [hy])) ⟨x, hx, hq, hp⟩
      have ha := h a (by simp)
      rw [List.countP_cons, List.countP_cons]
      cases h1 : p a
      · simp; omega
      · rw [ha h1]; simp; omega

theorem step_rank {rf : Nat → List Nat} {n : Nat} {c : List Nat} (hc : Rep n c) (hne : stepL rf n c ≠ c) : rankL n (stepL rf n c) < rankL n c := by
  have hq := stepQ_eqOn rf c n
  have hr := buildL_rep hq
  have hl : (stepL rf n c).length = n := buildL_length _ _
  have hex : ∃ i, i < n ∧ (stepL rf n c).getD i 0 ≠ c.getD i 0 := by
    refine Classical.byContradiction fun h => hne ?_
    refine List.ext_getElem (by rw [hl, hc.len]) fun i h1 h2 => ?_
    have h3 : ¬ ((stepL rf n c).getD i 0 ≠ c.getD i 0) := fun h4 => h ⟨i, by omega, h4⟩
    simp only [List.getD_eq_getElem?_getD, List.getElem?_eq_getElem h1, List.getElem?_eq_getElem h2, Option.getD_some] at h3
    exact Classical.not_not.1 h3
  unfold rankL
  refine countP_lt_of ?_ ?_
  · intro i hi h
    have hi : i < n := by simpa using hi
    simp only [bne_iff_ne, ne_eq] at h ⊢
    intro h2
    apply h
    obtain ⟨a1, a2, a3⟩ := buildL_least hq i hi
    change (buildL (stepQ rf c) n).getD i 0 = i
    have h4 := (stepQ_iff.1 a2).1
    have h5 := hc.le ((buildL (stepQ rf c) n).getD i 0) (by omega)
    omega
  · obtain ⟨i, hi, hd⟩ := hex
    obtain ⟨a1, a2, a3⟩ := buildL_least hq i hi
    refine ⟨(stepL rf n c).getD i 0, ?_, ?_, ?_⟩
    · have : (stepL rf n c).getD i 0 ≤ i := a1
      exact List.mem_range.2 (by omega)
    · simp only [bne_iff_ne, ne_eq]
      intro h
      apply hd
      have h4 := (stepQ_iff.1 a2).1
      rw [h4]
      exact h.symm
    · have := hr.idem i hi
      have h2 : (stepL rf n c).getD ((stepL rf n c).getD i 0) 0 = (stepL rf n c).getD i 0 := this
      simpa using h2

def iterL (rf : Nat → List Nat) (n : Nat) : Nat → List Nat → List Nat
  | 0, c => c
  | f + 1, c => if stepL rf n c = c then c else iterL rf n f (stepL rf n c)
theorem rankL_le (n : Nat) (c : List Nat) : rankL n c ≤ n := by
  unfold rankL
  have := List.countP_le_length (p := fun i => c.getD i 0 != i) (l := List.range n)
  simpa using this
theorem iterL_stop {rf : Nat → List Nat} {n f : Nat} {c : List Nat} (h : stepL rf n c = c) : iterL rf n f c = c := by
  cases f with
  | zero => rfl
  | succ f => simp [iterL, h]
theorem iterL_go {rf : Nat → List Nat} {n f : Nat} {c : List Nat} (h : stepL rf n c ≠ c) : iterL rf n (f + 1) c = iterL rf n f (stepL rf n c) := by
  simp [iterL, h]
theorem iterL_spec {rf : Nat → List Nat} {n : Nat} (P : List Nat → Prop) (hstep : ∀ c, Rep n c → P c → P (stepL rf n c)) : ∀ f c, Rep n c → P c → rankL n c ≤ f → Rep n (iterL rf n f c) ∧ P (iterL rf n f c) ∧ stepL rf n (iterL rf n f c) = iterL rf n f c := by
  intro f
  induction f with
  | zero =>
    intro c hc hp h
    refine ⟨hc, hp, Classical.byContradiction fun hne => ?_⟩
    have := step_rank hc hne
    omega
  | succ f ih =>
    intro c hc hp h
    by_cases he : stepL rf n c = c
    · rw [iterL_stop he]; exact ⟨hc, hp, he⟩
    · rw [iterL_go he]
      have := step_rank hc he
      exact ih _ (buildL_rep (stepQ_eqOn rf c n)) (hstep c hc hp) (by omega)

/-- for each the least one that is the same -/
def classesN (ag : Nat → Nat → Bool) (rf : Nat → List Nat) (n : Nat) : List Nat := iterL rf n n (buildL ag n)

/-- place by place -/
inductive All2 (R : Nat → Nat → Prop) : List Nat → List Nat → Prop
  | nil : All2 R [] []
  | cons {x y : Nat} {xs ys : List Nat} : R x y → All2 R xs ys → All2 R (x :: xs) (y :: ys)
/-- pairs that show that they are the same -/
structure Bisim (n : Nat) (ag : Nat → Nat → Bool) (rf : Nat → List Nat) (R : Nat → Nat → Prop) : Prop where
  ag : ∀ i j, i < n → j < n → R i j → ag i j = true
  rf : ∀ i j, i < n → j < n → R i j → All2 R (rf i) (rf j)

structure AbsGraph (n : Nat) (ag : Nat → Nat → Bool) (rf : Nat → List Nat) : Prop where
  eq : EqOn n ag
  rng : ∀ i, i < n → ∀ r ∈ rf i, r < n
  len : ∀ i j, i < n → j < n → ag i j = true → (rf i).length = (rf j).length

theorem forall2_map_eq {R : Nat → Nat → Prop} {f : Nat → Nat} {n : Nat} : ∀ {xs ys : List Nat}, All2 R xs ys → (∀ r ∈ xs, r < n) → (∀ r ∈ ys, r < n) → (∀ i j, i < n → j < n → R i j → f i = f j) → xs.map f = ys.map f
  | _, _, .nil, _, _, _ => rfl
  | x :: xs, y :: ys, .cons h t, hx, hy, hf => by
    rw [List.map_cons, List.map_cons, hf x y (hx x (by simp)) (hy y (by simp)) h, forall2_map_eq t (fun r hr => hx r (by simp [hr])) (fun r hr => hy r (by simp [hr])) hf]
theorem forall2_of_map_eq {f : Nat → Nat} : ∀ {xs ys : List Nat}, xs.map f = ys.map f → All2 (fun i j => f i = f j) xs ys
  | [], [], _ => .nil
  | [], y :: ys, h => by simp at h
  | x :: xs, [], h => by simp at h
  | x :: xs, y :: ys, h => by
    simp only [List.map_cons, List.cons.injEq] at h
    exact .cons h.1 (forall2_of_map_eq h.2)

section
variable {n : Nat} {ag : Nat → Nat → Bool} {rf : Nat → List Nat}
theorem classesN_facts (G : AbsGraph n ag rf) :
    Rep n (classesN ag rf n) ∧ (∀ i j, i < n → j < n → (classesN ag rf n).getD i 0 = (classesN ag rf n).getD j 0 → ag i j = true) ∧
      (∀ R, Bisim n ag rf R → ∀ i j, i < n → j < n → R i j → (classesN ag rf n).getD i 0 = (classesN ag rf n).getD j 0) ∧
      stepL rf n (classesN ag rf n) = classesN ag rf n := by
  have := iterL_spec (rf := rf) (n := n) (fun c => (∀ i j, i < n → j < n → c.getD i 0 = c.getD j 0 → ag i j = true) ∧ (∀ R, Bisim n ag rf R → ∀ i j, i < n → j < n → R i j → c.getD i 0 = c.getD j 0)) (by
    rintro c hc ⟨h1, h2⟩
    have hq := stepQ_eqOn rf c n
    refine ⟨fun i j hi hj h => ?_, fun R hR i j hi hj hij => ?_⟩
    · exact h1 i j hi hj (stepQ_iff.1 ((buildL_iff hq hi hj).1 h)).1
    · refine (buildL_iff hq hi hj).2 (stepQ_iff.2 ⟨h2 R hR i j hi hj hij, ?_⟩)
      exact forall2_map_eq (hR.rf i j hi hj hij) (G.rng i hi) (G.rng j hj) (fun i j hi hj h => h2 R hR i j hi hj h)) n (buildL ag n) (buildL_rep G.eq)
    ⟨fun i j hi hj h => (buildL_iff G.eq hi hj).1 h, fun R hR i j hi hj h => (buildL_iff G.eq hi hj).2 (hR.ag i j hi hj h)⟩ (rankL_le _ _)
  exact ⟨this.1, this.2.1.1, this.2.1.2, this.2.2⟩
/-- are they the same? -/
def SameN (ag : Nat → Nat → Bool) (rf : Nat → List Nat) (n i j : Nat) : Prop := (classesN ag rf n).getD i 0 = (classesN ag rf n).getD j 0
theorem sameN_bisim (G : AbsGraph n ag rf) : Bisim n ag rf (SameN ag rf n) := by
  obtain ⟨h1, h2, h3, h4⟩ := classesN_facts G
  refine ⟨h2, fun i j hi hj h => ?_⟩
  have hq := stepQ_eqOn rf (classesN ag rf n) n
  have h5 := (buildL_iff hq hi hj).1 (by
    have h6 : buildL (stepQ rf (classesN ag rf n)) n = classesN ag rf n := h4
    rw [h6]; exact h)
  exact forall2_of_map_eq (stepQ_iff.1 h5).2
theorem sameN_of_bisim (G : AbsGraph n ag rf) {R : Nat → Nat → Prop} (hR : Bisim n ag rf R) {i j : Nat} (hi : i < n) (hj : j < n) (h : R i j) : SameN ag rf n i j :=
  (classesN_facts G).2.2.1 R hR i j hi hj h

/-! ### Ways -/
/-- the way tells i and j apart -/
def tellsN (ag : Nat → Nat → Bool) (rf : Nat → List Nat) : Nat → Nat → List Nat → Bool
  | i, j, [] => !ag i j
  | i, j, k :: w => ag i j && (decide (k < (rf i).length) && tellsN ag rf ((rf i).getD k 0) ((rf j).getD k 0) w)
theorem forall2_getD {R : Nat → Nat → Prop} : ∀ {xs ys : List Nat}, All2 R xs ys → ∀ k, k < xs.length → R (xs.getD k 0) (ys.getD k 0)
  | _, _, .nil, k, h => by simp at h
  | _, _, .cons h t, 0, _ => by simpa using h
  | x :: xs, y :: ys, .cons h t, k + 1, hk => by
    have := forall2_getD t k (by simpa using hk)
    simpa using this
theorem forall2_of_getD {R : Nat → Nat → Prop} : ∀ {xs ys : List Nat}, xs.length = ys.length → (∀ k, k < xs.length → R (xs.getD k 0) (ys.getD k 0)) → All2 R xs ys
  | [], [], _, _ => .nil
  | [], y :: ys, h, _ => by simp at h
  | x :: xs, [], h, _ => by simp at h
  | x :: xs, y :: ys, h, hk => .cons (by simpa using hk 0 (by simp)) (forall2_of_getD (by simpa using h) fun k hlt => by simpa using hk (k + 1) (by simpa using hlt))
theorem getD_mem {xs : List Nat} {k : Nat} (h : k < xs.length) : xs.getD k 0 ∈ xs := by
  rw [List.getD_eq_getElem?_getD, List.getElem?_eq_getElem h]; exact List.getElem_mem h
theorem sameN_no_way (G : AbsGraph n ag rf) : ∀ w i j, i < n → j < n → SameN ag rf n i j → tellsN ag rf i j w = false := by
  intro w
  induction w with
  | nil => intro i j hi hj h; simp [tellsN, (sameN_bisim G).ag i j hi hj h]
  | cons k w ih =>
    intro i j hi hj h
    unfold tellsN
    by_cases hk : k < (rf i).length
    · have h1 := forall2_getD ((sameN_bisim G).rf i j hi hj h) k hk
      have hl := G.len i j hi hj ((sameN_bisim G).ag i j hi hj h)
      rw [ih _ _ (G.rng i hi _ (getD_mem hk)) (G.rng j hj _ (getD_mem (by omega))) h1]
      simp
    · simp [hk]
theorem no_way_sameN (G : AbsGraph n ag rf) {i j : Nat} (hi : i < n) (hj : j < n) (h : ∀ w, tellsN ag rf i j w = false) : SameN ag rf n i j := by
  refine sameN_of_bisim G (R := fun i j => ∀ w, tellsN ag rf i j w = false) ⟨fun i j _ _ h => by simpa [tellsN] using h [], fun i j hi hj h => ?_⟩ hi hj h
  have ha : ag i j = true := by simpa [tellsN] using h []
  refine forall2_of_getD (G.len i j hi hj ha) fun k hk w => ?_
  have := h (k :: w)
  simpa [tellsN, ha, hk] using this
end
end Go.Proofs.YtldnjnnhfeobdaaGreatDoor
/- Plain theory: the search for the least way that tells two types apart. No program. No condition. -/
namespace Go.Proofs.YtldnjnnhfeobdaaGreatDoor
set_option linter.all false
set_option linter.unusedSimpArgs false
set_option linter.unusedVariables false

abbrev Spot := (Nat × Nat) × List Nat
def kidsN (rf : Nat → List Nat) (p : Nat × Nat) : List (Nat × Nat) := (rf p.1).zip (rf p.2)
def pushN (way : List Nat) : Nat → List (Nat × Nat) → List (Nat × Nat) → List Spot → List (Nat × Nat) × List Spot
  | _, [], s, o => (s, o)
  | k, p :: ps, s, o => if p ∈ s then pushN way (k + 1) ps s o else pushN way (k + 1) ps (s ++ [p]) (o ++ [(p, way ++ [k])])
def apartN (ag : Nat → Nat → Bool) (rf : Nat → List Nat) : Nat → List (Nat × Nat) → List Spot → Option (List Nat)
  | 0, _, _ => none
  | f + 1, _, [] => none
  | f + 1, s, x :: o => if ag x.1.1 x.1.2 then apartN ag rf f (pushN x.2 0 (kidsN rf x.1) s o).1 (pushN x.2 0 (kidsN rf x.1) s o).2 else some x.2

theorem pushN_spec (way : List Nat) : ∀ ps k s o, ∃ new : List Spot, pushN way k ps s o = (s ++ new.map (·.1), o ++ new) ∧
    (∀ e ∈ new, e.1 ∉ s ∧ ∃ m, ∃ h : m < ps.length, e.1 = ps[m] ∧ e.2 = way ++ [k + m]) ∧ (∀ p ∈ ps, p ∈ s ++ new.map (·.1)) ∧ (s.Nodup → (s ++ new.map (·.1)).Nodup) := by
  intro ps
  induction ps with
  | nil => intro k s o; exact ⟨[], by simp [pushN], by simp, by simp, by simp⟩
  | cons p ps ih =>
    intro k s o
    unfold pushN
    by_cases hp : p ∈ s
    · rw [if_pos hp]
      obtain ⟨new, h1, h2, h3, h4⟩ := ih (k + 1) s o
      refine ⟨new, h1, fun e he => ?_, fun q hq => ?_, h4⟩
      · obtain ⟨a1, m, hm, a2, a3⟩ := h2 e he
        exact ⟨a1, m + 1, by simp; omega, by simpa using a2, by rw [a3]; congr 2; omega⟩
      · rcases List.mem_cons.1 hq with rfl | hq
        · simp [hp]
        · exact h3 q hq
    · rw [if_neg hp]
      obtain ⟨new, h1, h2, h3, h4⟩ := ih (k + 1) (s ++ [p]) (o ++ [(p, way ++ [k])])
      refine ⟨(p, way ++ [k]) :: new, by rw [h1]; simp, fun e he => ?_, fun q hq => ?_, fun hs => ?_⟩
      · rcases List.mem_cons.1 he with rfl | he
        · exact ⟨hp, 0, by simp, by simp, by simp⟩
        · obtain ⟨a1, m, hm, a2, a3⟩ := h2 e he
          exact ⟨fun h => a1 (by simp [h]), m + 1, by simp; omega, by simpa using a2, by rw [a3]; congr 2; omega⟩
      · rcases List.mem_cons.1 hq with rfl | hq
        · simp
        · have := h3 q hq
          simpa using this
      · have := h4 (by rw [List.nodup_append]; exact ⟨hs, by simp, by rintro a ha b hb rfl; simp at hb; subst hb; exact hp ha⟩)
        simpa using this

/-- what the search knows -/
structure Inv (n : Nat) (ag : Nat → Nat → Bool) (rf : Nat → List Nat) (a b : Nat) (dn : List Spot) (s : List (Nat × Nat)) (o : List Spot) : Prop where
  rng : ∀ e ∈ dn ++ o, e.1.1 < n ∧ e.1.2 < n
  lead : ∀ e ∈ dn ++ o, ∀ v, tellsN ag rf a b (e.2 ++ v) = tellsN ag rf e.1.1 e.1.2 v
  past : ∀ e ∈ dn, ag e.1.1 e.1.2 = true ∧ ∀ c ∈ kidsN rf e.1, ∃ f ∈ dn ++ o, f.1 = c ∧ f.2.length ≤ e.2.length + 1
  seen : ∀ p, p ∈ s ↔ ∃ e ∈ dn ++ o, e.1 = p
  nodup : s.Nodup
  sorted : o.Pairwise fun e f => e.2.length ≤ f.2.length ∧ f.2.length ≤ e.2.length + 1
  start : ∃ e ∈ dn ++ o, e.1 = (a, b) ∧ e.2.length = 0
  ends : ∀ e ∈ dn, ∀ f ∈ o, e.2.length ≤ f.2.length

section
variable {n : Nat} {ag : Nat → Nat → Bool} {rf : Nat → List Nat} {a b : Nat} {dn : List Spot} {s : List (Nat × Nat)} {o : List Spot}
theorem kidsN_getD (rf : Nat → List Nat) (i j k : Nat) (h1 : k < (rf i).length) (h2 : k < (rf j).length) : ((rf i).getD k 0, (rf j).getD k 0) ∈ kidsN rf (i, j) := by
  unfold kidsN
  rw [List.mem_iff_getElem]
  refine ⟨k, by simp; omega, ?_⟩
  simp [List.getD_eq_getElem?_getD, List.getElem?_eq_getElem h1, List.getElem?_eq_getElem h2]

theorem Inv.find (G : AbsGraph n ag rf) (I : Inv n ag rf a b dn s o) : ∀ v e, e ∈ dn ++ o → tellsN ag rf e.1.1 e.1.2 v = true → ∃ f ∈ o, ∃ v', tellsN ag rf f.1.1 f.1.2 v' = true ∧ f.2.length + v'.length ≤ e.2.length + v.length := by
  intro v
  induction v with
  | nil =>
    intro e he ht
    rcases List.mem_append.1 he with h | h
    · have := (I.past e h).1
      simp [tellsN, this] at ht
    · exact ⟨e, h, [], ht, Nat.le_refl _⟩
  | cons k v ih =>
    intro e he ht
    rcases List.mem_append.1 he with h | h
    · unfold tellsN at ht
      simp only [Bool.and_eq_true, decide_eq_true_eq] at ht
      obtain ⟨t1, t2, t3⟩ := ht
      obtain ⟨hr1, hr2⟩ := I.rng e he
      have hl := G.len _ _ hr1 hr2 t1
      obtain ⟨f, hf, hf1, hf2⟩ := (I.past e h).2 _ (kidsN_getD rf e.1.1 e.1.2 k t2 (by omega))
      obtain ⟨g, hg, v', h1, h2⟩ := ih f hf (by rw [hf1]; exact t3)
      exact ⟨g, hg, v', h1, by simp; omega⟩
    · exact ⟨e, h, k :: v, ht, Nat.le_refl _⟩

theorem Inv.init (ha : a < n) (hb : b < n) : Inv n ag rf a b [] [(a, b)] [((a, b), [])] :=
  ⟨by simp [ha, hb], by simp, by simp, fun p => by simp [eq_comm], by simp, by simp, ⟨_, List.mem_append_right _ (List.mem_singleton.2 rfl), rfl, rfl⟩, by simp⟩

theorem Inv.step (G : AbsGraph n ag rf) {x : Spot} (I : Inv n ag rf a b dn s (x :: o)) (hx : ag x.1.1 x.1.2 = true) :
    Inv n ag rf a b (dn ++ [x]) (pushN x.2 0 (kidsN rf x.1) s o).1 (pushN x.2 0 (kidsN rf x.1) s o).2 := by
  obtain ⟨new, h1, h2, h3, h4⟩ := pushN_spec x.2 (kidsN rf x.1) 0 s o
  rw [h1]
  obtain ⟨hr1, hr2⟩ := I.rng x (by simp)
  have hl := G.len _ _ hr1 hr2 hx
  have hnew : ∀ e ∈ new, (e.1.1 < n ∧ e.1.2 < n) ∧ (∀ v, tellsN ag rf a b (e.2 ++ v) = tellsN ag rf e.1.1 e.1.2 v) ∧ e.2.length = x.2.length + 1 := by
    intro e he
    obtain ⟨_, m, hm, e1, e2⟩ := h2 e he
    have hm1 : m < (rf x.1.1).length := by simp [kidsN] at hm; omega
    have hm2 : m < (rf x.1.2).length := by simp [kidsN] at hm; omega
    have ek : e.1 = ((rf x.1.1).getD m 0, (rf x.1.2).getD m 0) := by
      rw [e1]; simp [kidsN, List.getD_eq_getElem?_getD, List.getElem?_eq_getElem hm1, List.getElem?_eq_getElem hm2]
    refine ⟨by rw [ek]; exact ⟨G.rng _ hr1 _ (getD_mem hm1), G.rng _ hr2 _ (getD_mem hm2)⟩, fun v => ?_, by rw [e2]; simp⟩
    rw [e2, List.append_assoc, I.lead x (by simp)]
    simp only [List.cons_append, List.nil_append, Nat.zero_add]
    rw [tellsN, hx, ek]
    simp [hm1]
  have hmem : ∀ e, e ∈ dn ++ [x] ++ (o ++ new) ↔ e ∈ dn ++ (x :: o) ∨ e ∈ new := by
    intro e; simp; constructor
    · rintro (h | h | h | h) <;> simp [h]
    · rintro ((h | h | h) | h) <;> simp [h]
  refine ⟨fun e he => ?_, fun e he => ?_, fun e he => ?_, fun p => ?_, h4 I.nodup, ?_, ?_, fun e he f hf => ?_⟩
  · rcases (hmem e).1 he with h | h
    · exact I.rng e h
    · exact (hnew e h).1
  · rcases (hmem e).1 he with h | h
    · exact I.lead e h
    · exact (hnew e h).2.1
  · rcases List.mem_append.1 he with h | h
    · refine ⟨(I.past e h).1, fun c hc => ?_⟩
      obtain ⟨f, hf, hf1, hf2⟩ := (I.past e h).2 c hc
      exact ⟨f, (hmem f).2 (.inl hf), hf1, hf2⟩
    · obtain rfl : e = x := by simpa using h
      refine ⟨hx, fun c hc => ?_⟩
      rcases List.mem_append.1 (h3 c hc) with h | h
      · obtain ⟨f, hf, hf1⟩ := (I.seen c).1 h
        refine ⟨f, (hmem f).2 (.inl hf), hf1, ?_⟩
        rcases List.mem_append.1 hf with h5 | h5
        · have := I.ends f h5 e (by simp)
          omega
        · rcases List.mem_cons.1 h5 with rfl | h5
          · omega
          · exact (List.rel_of_pairwise_cons I.sorted h5).2
      · obtain ⟨f, hf, rfl⟩ := List.mem_map.1 h
        exact ⟨f, (hmem f).2 (.inr hf), rfl, by rw [(hnew f hf).2.2]; exact Nat.le_refl _⟩
  · rw [List.mem_append]
    constructor
    · rintro (h | h)
      · obtain ⟨e, he, h5⟩ := (I.seen p).1 h
        exact ⟨e, (hmem e).2 (.inl he), h5⟩
      · obtain ⟨f, hf, rfl⟩ := List.mem_map.1 h
        exact ⟨f, (hmem f).2 (.inr hf), rfl⟩
    · rintro ⟨e, he, rfl⟩
      rcases (hmem e).1 he with h | h
      · exact .inl ((I.seen _).2 ⟨e, h, rfl⟩)
      · exact .inr (List.mem_map.2 ⟨e, h, rfl⟩)
  · rw [List.pairwise_append]
    have hs := List.pairwise_cons.1 I.sorted
    refine ⟨hs.2, ?_, fun e he f hf => ?_⟩
    · rw [List.pairwise_iff_forall_sublist]
      intro e f hef
      have he : e ∈ new := hef.subset (by simp)
      have hf : f ∈ new := hef.subset (by simp)
      rw [(hnew e he).2.2, (hnew f hf).2.2]; omega
    · rw [(hnew f hf).2.2]
      have := hs.1 e he
      omega
  · obtain ⟨e, he, h5⟩ := I.start
    exact ⟨e, (hmem e).2 (.inl he), h5⟩
  · have hx1 : ∀ f ∈ o ++ new, x.2.length ≤ f.2.length := by
      intro f hf
      rcases List.mem_append.1 hf with h | h
      · exact (List.rel_of_pairwise_cons I.sorted h).1
      · rw [(hnew f h).2.2]; omega
    rcases List.mem_append.1 he with h | h
    · have := I.ends e h x (by simp)
      have := hx1 f hf
      omega
    · obtain rfl : e = x := by simpa using h
      exact hx1 f hf

theorem nodup_length_le {α : Type} [DecidableEq α] : ∀ {s l : List α}, s.Nodup → (∀ x ∈ s, x ∈ l) → s.length ≤ l.length
  | [], _, _, _ => by simp
  | x :: s, l, hs, hl => by
    have h1 := List.nodup_cons.1 hs
    have hx : x ∈ l := hl x (by simp)
    have := nodup_length_le (s := s) (l := l.erase x) h1.2 fun y hy => (List.mem_erase_of_ne (by rintro rfl; exact h1.1 hy)).2 (hl y (by simp [hy]))
    rw [List.length_erase_of_mem hx] at this
    have : 0 < l.length := List.length_pos_of_mem hx
    simp; omega
theorem pairs_le {n : Nat} {s : List (Nat × Nat)} (hs : s.Nodup) (h : ∀ p ∈ s, p.1 < n ∧ p.2 < n) : s.length ≤ n * n := by
  have := nodup_length_le (l := (List.range n).flatMap fun i => (List.range n).map fun j => (i, j)) hs fun p hp => by
    obtain ⟨h1, h2⟩ := h p hp
    simp only [List.mem_flatMap, List.mem_range, List.mem_map]
    exact ⟨p.1, h1, p.2, h2, rfl⟩
  have hl : ((List.range n).flatMap fun i => (List.range n).map fun j => (i, j)).length = n * n := by
    rw [List.length_flatMap]
    simp only [List.length_map, List.length_range]
    rw [List.map_const', List.sum_replicate_nat, List.length_range]
  omega
theorem Inv.seen_le (I : Inv n ag rf a b dn s o) : s.length ≤ n * n :=
  pairs_le I.nodup fun p hp => by obtain ⟨e, he, rfl⟩ := (I.seen p).1 hp; exact I.rng e he
/-- how many rounds are left, at most -/
def leftN (n : Nat) (s : List (Nat × Nat)) (o : List Spot) : Nat := n * n - s.length + o.length
theorem Inv.left (G : AbsGraph n ag rf) {x : Spot} (I : Inv n ag rf a b dn s (x :: o)) (hx : ag x.1.1 x.1.2 = true) :
    leftN n (pushN x.2 0 (kidsN rf x.1) s o).1 (pushN x.2 0 (kidsN rf x.1) s o).2 < leftN n s (x :: o) := by
  have h0 := (I.step G hx).seen_le
  have h1 := I.seen_le
  obtain ⟨new, e, _⟩ := pushN_spec x.2 (kidsN rf x.1) 0 s o
  rw [e] at h0 ⊢
  unfold leftN
  simp at h0 ⊢
  omega

/-- what the search finds -/
def Found (ag : Nat → Nat → Bool) (rf : Nat → List Nat) (a b : Nat) : Option (List Nat) → Prop
  | none => ∀ v, tellsN ag rf a b v = false
  | some w => tellsN ag rf a b w = true ∧ ∀ v, tellsN ag rf a b v = true → w.length ≤ v.length
theorem Inv.no (G : AbsGraph n ag rf) (I : Inv n ag rf a b dn s []) : Found ag rf a b none := by
  intro v
  cases ht : tellsN ag rf a b v with
  | false => rfl
  | true =>
    obtain ⟨e, he, h1, h2⟩ := I.start
    obtain ⟨f, hf, _⟩ := I.find G v e he (by rw [h1]; exact ht)
    simp at hf
theorem Inv.yes (G : AbsGraph n ag rf) {x : Spot} (I : Inv n ag rf a b dn s (x :: o)) (hx : ag x.1.1 x.1.2 = false) : Found ag rf a b (some x.2) := by
  refine ⟨?_, fun v ht => ?_⟩
  · have := I.lead x (by simp) []
    rw [List.append_nil] at this
    rw [this]; simp [tellsN, hx]
  · obtain ⟨e, he, h1, h2⟩ := I.start
    obtain ⟨f, hf, v', _, h3⟩ := I.find G v e he (by rw [h1]; exact ht)
    have : x.2.length ≤ f.2.length := by
      rcases List.mem_cons.1 hf with rfl | hf
      · exact Nat.le_refl _
      · exact (List.rel_of_pairwise_cons I.sorted hf).1
    omega
theorem apartN_found (G : AbsGraph n ag rf) : ∀ f dn s o, Inv n ag rf a b dn s o → leftN n s o < f → Found ag rf a b (apartN ag rf f s o) := by
  intro f
  induction f with
  | zero => intro dn s o _ h; omega
  | succ f ih =>
    intro dn s o I h
    cases o with
    | nil => exact I.no G
    | cons x o =>
      unfold apartN
      cases hx : ag x.1.1 x.1.2 with
      | false => exact I.yes G hx
      | true =>
        have := I.left G hx
        exact ih _ _ _ (I.step G hx) (by omega)
end
end Go.Proofs.YtldnjnnhfeobdaaGreatDoor
/- Plain functions on graphs: references, what is fine. No program. No condition. -/
namespace Go.Proofs.YtldnjnnhfeobdaaGreatDoor
set_option linter.all false
set_option linter.unusedSimpArgs false
set_option linter.unusedVariables false

def ty0 : Ty := ⟨0, 0, 0, false, ByteArray.empty, ByteArray.empty, 0, [], [], []⟩
def getT (g : Graph) (i : Nat) : Ty := g.getD i ty0
def refsM (m : Method) : List Int := m.args ++ if 0 ≤ m.result then [m.result] else []
def refsS (t : Ty) : List Int := if hasSuperB t.kind then [t.super] else []
def refsL (t : Ty) : List Int := refsS t ++ (t.parts.map Part.type ++ t.methods.flatMap refsM)
def refsN (g : Graph) (i : Nat) : List Nat := (refsL (getT g i)).map Int.toNat
theorem getT_lt {g : Graph} {i : Nat} (h : i < g.length) : getT g i = g[i] := by simp [getT, List.getD_eq_getElem?_getD, List.getElem?_eq_getElem h]
theorem getT_mem {g : Graph} {i : Nat} (h : i < g.length) : getT g i ∈ g := by rw [getT_lt h]; exact List.getElem_mem h

/-- what is right refers to types of the graph, and is short -/
structure Fine (n : Nat) (t : Ty) : Prop where
  super : hasSuperB t.kind = true → 0 ≤ t.super ∧ t.super < n
  part : ∀ p ∈ t.parts, 0 ≤ p.type ∧ p.type < n
  arg : ∀ m ∈ t.methods, ∀ a ∈ m.args, 0 ≤ a ∧ a < n
  result : ∀ m ∈ t.methods, m.result = -1 ∨ 0 ≤ m.result ∧ m.result < n
  parts : t.parts.length ≤ 8
  methods : t.methods.length ≤ 8
  overs : t.overs.length ≤ 8
  args : ∀ m ∈ t.methods, m.args.length ≤ 6
  raises : ∀ m ∈ t.methods, m.raises.length ≤ 6
  kind : 1 ≤ t.kind ∧ t.kind < 14
theorem Fine.refs {n : Nat} {t : Ty} (h : Fine n t) : ∀ r ∈ refsL t, 0 ≤ r ∧ r < n := by
  intro r hr
  unfold refsL refsS at hr
  rcases List.mem_append.1 hr with hr | hr
  · cases hs : hasSuperB t.kind with
    | false => simp [hs] at hr
    | true => simp [hs] at hr; subst hr; exact h.super hs
  rcases List.mem_append.1 hr with hr | hr
  · obtain ⟨p, hp, rfl⟩ := List.mem_map.1 hr
    exact h.part p hp
  · obtain ⟨m, hm, hr⟩ := List.mem_flatMap.1 hr
    unfold refsM at hr
    rcases List.mem_append.1 hr with hr | hr
    · exact h.arg m hm r hr
    · by_cases h0 : 0 ≤ m.result
      · simp [h0] at hr; subst hr
        rcases h.result m hm with e | e
        · omega
        · exact e
      · simp [h0] at hr
theorem flatMap_le {α β : Type} (f : α → List β) (k : Nat) : ∀ l : List α, (∀ x ∈ l, (f x).length ≤ k) → (l.flatMap f).length ≤ l.length * k
  | [], _ => by simp
  | x :: l, h => by
    have h1 := h x (by simp)
    have h2 := flatMap_le f k l fun y hy => h y (by simp [hy])
    rw [List.flatMap_cons, List.length_append, List.length_cons, Nat.add_mul]
    omega
theorem Fine.refs_le {n : Nat} {t : Ty} (h : Fine n t) : (refsL t).length ≤ 65 := by
  have h1 := flatMap_le refsM 7 t.methods fun m hm => by
    have := h.args m hm
    unfold refsM
    rw [List.length_append]
    split <;> simp <;> omega
  have h2 := h.methods
  have h3 := h.parts
  have h4 : (refsS t).length ≤ 1 := by unfold refsS; split <;> simp
  unfold refsL
  rw [List.length_append, List.length_append, List.length_map]
  omega
end Go.Proofs.YtldnjnnhfeobdaaGreatDoor
/- Plain functions on graphs: references, agreement, what is right, what is well-formed. No program. No condition. -/
namespace Go.Proofs.YtldnjnnhfeobdaaGreatDoor
set_option linter.all false
set_option linter.unusedSimpArgs false
set_option linter.unusedVariables false

def partEq (p q : Part) : Bool := p.name.toList == q.name.toList
def plainEqB (s t : Ty) : Bool := decide (s.kind = t.kind) && (decide (s.low = t.low) && (decide (s.high = t.high) && ((s.branded == t.branded) && (strEq s.brand t.brand && strEq s.opaq t.opaq))))
def agreeT (s t : Ty) : Bool := plainEqB s t && (eqF partEq s.parts t.parts && (eqF sameMethodB s.methods t.methods && eqF overEq s.overs t.overs))
def agN (g : Graph) (i j : Nat) : Bool := agreeT (getT g i) (getT g j)
/-! ### agreement is an equivalence -/
theorem strEq_iff {a b : ByteArray} : strEq a b = true ↔ a = b := by
  unfold strEq
  constructor
  · intro h; exact ba_toList_inj (by simpa using h)
  · rintro rfl; simp
/-- a test that is true where f agrees -/
structure ByF {α : Type} (p : α → α → Bool) : Prop where
  refl : ∀ x, p x x = true
  symm : ∀ x y, p x y = true → p y x = true
  trans : ∀ x y z, p x y = true → p y z = true → p x z = true
theorem ByF.eqF {α : Type} {p : α → α → Bool} (h : ByF p) : ByF (eqF p) :=
  ⟨fun xs => by induction xs with
    | nil => rfl
    | cons x xs ih => simp [YtldnjnnhfeobdaaGreatDoor.eqF, h.refl, ih],
   fun xs => by induction xs with
    | nil => intro ys hy; cases ys <;> simp_all [YtldnjnnhfeobdaaGreatDoor.eqF]
    | cons x xs ih =>
      intro ys hy
      cases ys with
      | nil => simp [YtldnjnnhfeobdaaGreatDoor.eqF] at hy
      | cons y ys =>
        simp only [YtldnjnnhfeobdaaGreatDoor.eqF, Bool.and_eq_true] at hy ⊢
        exact ⟨h.symm _ _ hy.1, ih _ hy.2⟩,
   fun xs => by induction xs with
    | nil => intro ys zs h1 h2; cases ys <;> simp_all [YtldnjnnhfeobdaaGreatDoor.eqF]
    | cons x xs ih =>
      intro ys zs h1 h2
      cases ys with
      | nil => simp [YtldnjnnhfeobdaaGreatDoor.eqF] at h1
      | cons y ys =>
        cases zs with
        | nil => simp [YtldnjnnhfeobdaaGreatDoor.eqF] at h2
        | cons z zs =>
          simp only [YtldnjnnhfeobdaaGreatDoor.eqF, Bool.and_eq_true] at h1 h2 ⊢
          exact ⟨h.trans _ _ _ h1.1 h2.1, ih _ _ h1.2 h2.2⟩⟩
theorem byF_strEq : ByF strEq := ⟨fun x => strEq_iff.2 rfl, fun x y h => strEq_iff.2 (strEq_iff.1 h).symm, fun x y z h1 h2 => strEq_iff.2 ((strEq_iff.1 h1).trans (strEq_iff.1 h2))⟩
theorem partEq_eq (p q : Part) : partEq p q = strEq p.name q.name := rfl
theorem overEq_eq (p q : Over) : overEq p q = (strEq p.name q.name && strEq p.proc q.proc) := rfl
theorem byF_part : ByF partEq :=
  ⟨fun x => byF_strEq.refl _, fun x y h => byF_strEq.symm _ _ h, fun x y z h1 h2 => byF_strEq.trans _ _ _ h1 h2⟩
theorem byF_over : ByF overEq :=
  ⟨fun x => by simp [overEq_eq, byF_strEq.refl], fun x y h => by
    simp only [overEq_eq, Bool.and_eq_true] at h ⊢
    exact ⟨byF_strEq.symm _ _ h.1, byF_strEq.symm _ _ h.2⟩, fun x y z h1 h2 => by
    simp only [overEq_eq, Bool.and_eq_true] at h1 h2 ⊢
    exact ⟨byF_strEq.trans _ _ _ h1.1 h2.1, byF_strEq.trans _ _ _ h1.2 h2.2⟩⟩
theorem sameMethodB_iff {a b : Method} : sameMethodB a b = true ↔ a.name = b.name ∧ a.proc = b.proc ∧ a.args.length = b.args.length ∧ decide (a.result < 0) = decide (b.result < 0) ∧ eqF strEq a.raises b.raises = true := by
  simp only [sameMethodB, Bool.and_eq_true, strEq_iff, decide_eq_true_eq, beq_iff_eq]
theorem byF_method : ByF sameMethodB :=
  ⟨fun x => sameMethodB_iff.2 ⟨rfl, rfl, rfl, rfl, byF_strEq.eqF.refl _⟩, fun x y h => by
    obtain ⟨h1, h2, h3, h4, h5⟩ := sameMethodB_iff.1 h
    exact sameMethodB_iff.2 ⟨h1.symm, h2.symm, h3.symm, h4.symm, byF_strEq.eqF.symm _ _ h5⟩, fun x y z h k => by
    obtain ⟨h1, h2, h3, h4, h5⟩ := sameMethodB_iff.1 h
    obtain ⟨k1, k2, k3, k4, k5⟩ := sameMethodB_iff.1 k
    exact sameMethodB_iff.2 ⟨h1.trans k1, h2.trans k2, h3.trans k3, h4.trans k4, byF_strEq.eqF.trans _ _ _ h5 k5⟩⟩
theorem plainEqB_iff {s t : Ty} : plainEqB s t = true ↔ s.kind = t.kind ∧ s.low = t.low ∧ s.high = t.high ∧ s.branded = t.branded ∧ s.brand = t.brand ∧ s.opaq = t.opaq := by
  simp only [plainEqB, Bool.and_eq_true, strEq_iff, decide_eq_true_eq, beq_iff_eq]
theorem agreeT_iff {s t : Ty} : agreeT s t = true ↔ plainEqB s t = true ∧ eqF partEq s.parts t.parts = true ∧ eqF sameMethodB s.methods t.methods = true ∧ eqF overEq s.overs t.overs = true := by
  simp only [agreeT, Bool.and_eq_true]
theorem byF_agree : ByF agreeT :=
  ⟨fun x => agreeT_iff.2 ⟨plainEqB_iff.2 ⟨rfl, rfl, rfl, rfl, rfl, rfl⟩, byF_part.eqF.refl _, byF_method.eqF.refl _, byF_over.eqF.refl _⟩, fun x y h => by
    obtain ⟨h1, h2, h3, h4⟩ := agreeT_iff.1 h
    obtain ⟨p1, p2, p3, p4, p5, p6⟩ := plainEqB_iff.1 h1
    exact agreeT_iff.2 ⟨plainEqB_iff.2 ⟨p1.symm, p2.symm, p3.symm, p4.symm, p5.symm, p6.symm⟩, byF_part.eqF.symm _ _ h2, byF_method.eqF.symm _ _ h3, byF_over.eqF.symm _ _ h4⟩, fun x y z h k => by
    obtain ⟨h1, h2, h3, h4⟩ := agreeT_iff.1 h
    obtain ⟨k1, k2, k3, k4⟩ := agreeT_iff.1 k
    obtain ⟨p1, p2, p3, p4, p5, p6⟩ := plainEqB_iff.1 h1
    obtain ⟨q1, q2, q3, q4, q5, q6⟩ := plainEqB_iff.1 k1
    exact agreeT_iff.2 ⟨plainEqB_iff.2 ⟨p1.trans q1, p2.trans q2, p3.trans q3, p4.trans q4, p5.trans q5, p6.trans q6⟩, byF_part.eqF.trans _ _ _ h2 k2, byF_method.eqF.trans _ _ _ h3 k3, byF_over.eqF.trans _ _ _ h4 k4⟩⟩
theorem agN_eqOn (g : Graph) (n : Nat) : EqOn n (agN g) :=
  ⟨fun i _ => byF_agree.refl _, fun i j _ _ h => byF_agree.symm _ _ h, fun i j k _ _ _ h1 h2 => byF_agree.trans _ _ _ h1 h2⟩
theorem eqF_length {α : Type} {p : α → α → Bool} : ∀ {xs ys : List α}, eqF p xs ys = true → xs.length = ys.length
  | [], [], _ => rfl
  | [], y :: ys, h => by simp [eqF] at h
  | x :: xs, [], h => by simp [eqF] at h
  | x :: xs, y :: ys, h => by
    simp only [eqF, Bool.and_eq_true] at h
    simp [eqF_length h.2]
theorem refsM_length {a b : Method} (h : sameMethodB a b = true) : (refsM a).length = (refsM b).length := by
  obtain ⟨_, _, h3, h4, _⟩ := sameMethodB_iff.1 h
  have h5 : (0 ≤ a.result) ↔ (0 ≤ b.result) := by
    have : (a.result < 0) ↔ (b.result < 0) := by simpa using h4
    omega
  unfold refsM
  by_cases h6 : 0 ≤ a.result
  · simp [h6, h5.1 h6, h3]
  · have h7 : ¬ 0 ≤ b.result := fun h => h6 (h5.2 h)
    simp [h6, h7, h3]
theorem flatM_length : ∀ {xs ys : List Method}, eqF sameMethodB xs ys = true → (xs.flatMap refsM).length = (ys.flatMap refsM).length
  | [], [], _ => rfl
  | [], y :: ys, h => by simp [eqF] at h
  | x :: xs, [], h => by simp [eqF] at h
  | x :: xs, y :: ys, h => by
    simp only [eqF, Bool.and_eq_true] at h
    have h1 := refsM_length h.1
    have h2 := flatM_length h.2
    rw [List.flatMap_cons, List.flatMap_cons, List.length_append, List.length_append, h1, h2]
theorem refsL_length {s t : Ty} (h : agreeT s t = true) : (refsL s).length = (refsL t).length := by
  obtain ⟨h1, h2, h3, _⟩ := agreeT_iff.1 h
  obtain ⟨p1, _⟩ := plainEqB_iff.1 h1
  have e1 := eqF_length h2
  have e2 := flatM_length h3
  have e3 : (refsS s).length = (refsS t).length := by unfold refsS; rw [p1]; cases hasSuperB t.kind <;> rfl
  unfold refsL
  rw [List.length_append, List.length_append, List.length_append, List.length_append, List.length_map, List.length_map]
  omega

/-! ### what is right -/
def zeroB (t : Ty) : Bool := (decide (t.low = 0) && (decide (t.high = 0) && (!t.branded && (t.brand.toList.isEmpty && (t.opaq.toList.isEmpty && decide (t.super = 0)))))) && decide (t.parts.length + t.methods.length + t.overs.length = 0)
def rightB (g : Graph) (t : Ty) : Bool :=
  if t.kind = 3 then rangedB g t && zeroB (noRange t)
  else if t.kind = 9 ∨ t.kind = 11 then heldB g t && zeroB (noParts t)
  else if t.kind = 10 then recordedB g t && zeroB (noParts t)
  else if t.kind = 12 then objectsB g t && zeroB (noObject t)
  else if t.kind = 13 then opaqueB g t && zeroB (noOpaque t)
  else decide (1 ≤ t.kind ∧ t.kind < 14) && zeroB t
def superN (g : Graph) (i : Nat) : Nat := (getT g i).super.toNat
/-- within n steps up from a type one comes to i -/
def cycN (g : Graph) (i : Nat) : Nat → Nat → Bool
  | 0, _ => false
  | n + 1, at_ => hasSuperB (getT g at_).kind && (decide (superN g at_ = i) || cycN g i n (superN g at_))
/-- what is wrong with a graph -/
def checkG (g : Graph) : Int × Int :=
  if 400 < g.length then (400, 30) else
  match g.findIdx? fun t => !rightB g t with
  | some i => ((i : Int), 30)
  | none => match (List.range g.length).find? fun i => cycN g i g.length i with
    | some i => ((i : Int), 30)
    | none => (0, 0)
structure WF (g : Graph) : Prop where
  len : g.length ≤ 400
  right : ∀ t ∈ g, rightB g t = true
  cyc : ∀ i, i < g.length → cycN g i g.length i = false
theorem checkG_ok {g : Graph} : (checkG g).2 = 0 ↔ WF g := by
  unfold checkG
  by_cases h1 : 400 < g.length
  · rw [if_pos h1]
    exact ⟨fun h => by simp at h, fun h => by have := h.len; omega⟩
  · rw [if_neg h1]
    cases h2 : g.findIdx? fun t => !rightB g t with
    | some i =>
      rw [List.findIdx?_eq_some_iff_getElem] at h2
      obtain ⟨hi, h3, _⟩ := h2
      refine ⟨fun h => by simp at h, fun h => ?_⟩
      have := h.right _ (List.getElem_mem hi)
      simp [this] at h3
    | none =>
      rw [List.findIdx?_eq_none_iff] at h2
      cases h3 : (List.range g.length).find? fun i => cycN g i g.length i with
      | some i =>
        have h4 := List.find?_some h3
        have h5 := List.mem_of_find?_eq_some h3
        refine ⟨fun h => by simp at h, fun h => ?_⟩
        have := h.cyc i (by simpa using h5)
        simp [this] at h4
      | none =>
        rw [List.find?_eq_none] at h3
        exact ⟨fun _ => ⟨by omega, fun t ht => by simpa using h2 t ht, fun i hi => by simpa using h3 i (by simpa using hi)⟩, fun _ => rfl⟩
theorem checkG_err {g : Graph} : (checkG g).2 = 0 ∨ (checkG g).2 = 30 := by
  unfold checkG
  split
  · exact .inr rfl
  · split
    · exact .inr rfl
    · split
      · exact .inr rfl
      · exact .inl rfl
theorem checkG_zero {g : Graph} (h : (checkG g).2 = 0) : checkG g = (0, 0) := by
  unfold checkG at h ⊢
  split at h
  · simp at h
  · rename_i h1
    rw [if_neg h1]
    split at h
    · simp at h
    · split at h
      · simp at h
      · rfl
theorem zeroB_lens {t : Ty} (h : zeroB t = true) : t.parts = [] ∧ t.methods = [] ∧ t.overs = [] := by
  simp only [zeroB, Bool.and_eq_true, decide_eq_true_eq] at h
  obtain ⟨_, h⟩ := h
  exact ⟨List.eq_nil_of_length_eq_zero (by omega), List.eq_nil_of_length_eq_zero (by omega), List.eq_nil_of_length_eq_zero (by omega)⟩
theorem brandedB_parts {n : Nat} {t : Ty} (h : brandedB n t = true) : ∀ p ∈ t.parts, 0 ≤ p.type ∧ p.type < n := by
  simp only [brandedB, Bool.and_eq_true, Bool.not_eq_true', List.any_eq_false] at h
  intro p hp
  have := h.2.2 p hp
  simp only [partBad, Bool.not_eq_true', Bool.not_eq_false] at this
  exact hasB_iff.1 (by simpa using this)
theorem differentB_le {l : List ByteArray} {k : Int} (h : differentB l k = true) : (l.length : Int) ≤ k := by
  simp only [differentB, Bool.and_eq_true, decide_eq_true_eq] at h; exact h.2
theorem overB_rng {g : Graph} {i : Int} {l : List Int} (h : overB g i l = true) : 0 ≤ i ∧ i < g.length := by
  simp only [overB, Bool.and_eq_true] at h; exact hasB_iff.1 h.1
theorem right_fine {g : Graph} {t : Ty} (h : rightB g t = true) : Fine g.length t := by
  have hk13 : hasSuperB t.kind = true → t.kind = 12 ∨ t.kind = 13 := by simp [hasSuperB]
  unfold rightB at h
  split at h
  · rename_i hk
    simp only [Bool.and_eq_true] at h
    obtain ⟨z1, z2, z3⟩ := zeroB_lens h.2
    have z1 : t.parts = [] := z1
    have z2 : t.methods = [] := z2
    have z3 : t.overs = [] := z3
    exact ⟨fun hs => by have := hk13 hs; omega, by simp [z1], by simp [z2], by simp [z2], by simp [z1], by simp [z2], by simp [z3], by simp [z2], by simp [z2], by omega⟩
  split at h
  · rename_i hk
    simp only [Bool.and_eq_true] at h
    obtain ⟨h1, h2⟩ := h
    obtain ⟨_, z2, z3⟩ := zeroB_lens h2
    have z2 : t.methods = [] := z2
    have z3 : t.overs = [] := z3
    simp only [heldB, Bool.and_eq_true, decide_eq_true_eq] at h1
    exact ⟨fun hs => by have := hk13 hs; omega, brandedB_parts h1.1, by simp [z2], by simp [z2], by omega, by simp [z2], by simp [z3], by simp [z2], by simp [z2], by omega⟩
  split at h
  · rename_i hk
    simp only [Bool.and_eq_true] at h
    obtain ⟨h1, h2⟩ := h
    obtain ⟨_, z2, z3⟩ := zeroB_lens h2
    have z2 : t.methods = [] := z2
    have z3 : t.overs = [] := z3
    simp only [recordedB, Bool.and_eq_true, decide_eq_true_eq] at h1
    have hd := differentB_le h1.2.2
    simp at hd
    exact ⟨fun hs => by have := hk13 hs; omega, brandedB_parts h1.1, by simp [z2], by simp [z2], by omega, by simp [z2], by simp [z3], by simp [z2], by simp [z2], by omega⟩
  split at h
  · rename_i hk
    simp only [Bool.and_eq_true] at h
    obtain ⟨h1, h2⟩ := h
    simp only [objectsB, Bool.and_eq_true] at h1
    obtain ⟨b1, b2, b3⟩ := h1
    have hd := differentB_le b2
    simp only [objectB, Bool.and_eq_true, Bool.not_eq_true', Bool.or_eq_false_iff, List.any_eq_false] at b3
    obtain ⟨⟨c1, c2⟩, c3, c4, c5⟩ := b3
    have hm := differentB_le c3
    have ho := differentB_le c4
    simp at hd hm ho
    have hsig : ∀ m ∈ t.methods, sigB g.length m = true := by
      intro m hmm
      have := c1 m hmm
      simp only [badMethod, Bool.or_eq_true, Bool.not_eq_true', not_or, Bool.not_eq_false] at this
      exact this.1
    have hsig' : ∀ m ∈ t.methods, m.args.length ≤ 6 ∧ m.raises.length ≤ 6 ∧ (m.result = -1 ∨ 0 ≤ m.result ∧ m.result < g.length) ∧ ∀ a ∈ m.args, 0 ≤ a ∧ a < g.length := by
      intro m hmm
      have := hsig m hmm
      simp only [sigB, Bool.and_eq_true, Bool.or_eq_true, decide_eq_true_eq, Bool.not_eq_true', List.any_eq_false] at this
      obtain ⟨⟨d1, d2, d3, d4⟩, _⟩ := this
      refine ⟨d1, d2, d3.imp id fun h => hasB_iff.1 h, fun a ha => hasB_iff.1 ?_⟩
      have := d4 a ha
      simpa using this
    have hs := overB_rng c5
    exact ⟨fun _ => hs, brandedB_parts b1, fun m h => (hsig' m h).2.2.2, fun m h => (hsig' m h).2.2.1, by omega, by omega, by omega, fun m h => (hsig' m h).1, fun m h => (hsig' m h).2.1, by omega⟩
  split at h
  · rename_i hk
    simp only [Bool.and_eq_true] at h
    obtain ⟨h1, h2⟩ := h
    obtain ⟨z1, z2, z3⟩ := zeroB_lens h2
    have z1 : t.parts = [] := z1
    have z2 : t.methods = [] := z2
    have z3 : t.overs = [] := z3
    simp only [opaqueB, Bool.and_eq_true] at h1
    have hs := overB_rng h1.2
    exact ⟨fun _ => hs, by simp [z1], by simp [z2], by simp [z2], by simp [z1], by simp [z2], by simp [z3], by simp [z2], by simp [z2], by omega⟩
  · simp only [Bool.and_eq_true, decide_eq_true_eq] at h
    obtain ⟨h1, h2⟩ := h
    obtain ⟨z1, z2, z3⟩ := zeroB_lens h2
    exact ⟨fun hs => by have := hk13 hs; omega, by simp [z1], by simp [z2], by simp [z2], by simp [z1], by simp [z2], by simp [z3], by simp [z2], by simp [z2], h1⟩

theorem WF.fine {g : Graph} (h : WF g) {t : Ty} (ht : t ∈ g) : Fine g.length t := right_fine (h.right t ht)
theorem WF.abs {g : Graph} (h : WF g) : AbsGraph g.length (agN g) (refsN g) :=
  ⟨agN_eqOn g _, fun i hi r hr => by
    obtain ⟨x, hx, rfl⟩ := List.mem_map.1 hr
    have := (h.fine (getT_mem hi)).refs x hx
    omega, fun i j hi hj hij => by
    unfold refsN
    rw [List.length_map, List.length_map]
    exact refsL_length hij⟩
theorem refsN_cast {g : Graph} (h : WF g) {i : Nat} (hi : i < g.length) : (refsN g i).map (fun (n : Nat) => (n : Int)) = refsL (getT g i) := by
  unfold refsN
  rw [List.map_map]
  conv => rhs; rw [← List.map_id (refsL (getT g i))]
  refine List.map_congr_left fun r hr => ?_
  have := (h.fine (getT_mem hi)).refs r hr
  simp; omega
def classesG (g : Graph) : List Nat := classesN (agN g) (refsN g) g.length
end Go.Proofs.YtldnjnnhfeobdaaGreatDoor
/- Contract: the rule of a type's kind. Conditions: lengths below 2^20. -/
namespace Go.Proofs.YtldnjnnhfeobdaaGreatDoor
set_option linter.all false
set_option linter.unusedSimpArgs false
set_option linter.unusedVariables false
open Go.RowKit Go.Shelf

/-- what of two types is plain is the same -/
def plainB7 (k l h : Int) (b : Bool) (br op : ByteArray) (su k2 l2 h2 : Int) (b2 : Bool) (br2 op2 : ByteArray) (su2 : Int) : Bool :=
  decide (k = k2) && (decide (l = l2) && (decide (h = h2) && ((b == b2) && (strEq br br2 && (strEq op op2 && decide (su = su2))))))
theorem eql_plain (k l h : Int) (b : Bool) (br op : ByteArray) (su k2 l2 h2 : Int) (b2 : Bool) (br2 op2 : ByteArray) (su2 : Int) (w : World) :
    (binOp .eql 109 (.agg #[.int .u8 k, .int .i64 l, .int .i64 h, .bool b, .string br, .string op, .int .i64 su]) (.agg #[.int .u8 k2, .int .i64 l2, .int .i64 h2, .bool b2, .string br2, .string op2, .int .i64 su2])).run Tryz.prog w = .ok (.bool (plainB7 k l h b br op su k2 l2 h2 b2 br2 op2 su2)) w := by
  have u9 := Tryz.underlying9
  have a9 := Tryz.isAgg9
  have z9 := Tryz.sizeOf9
  have u3 := Tryz.underlying3
  have a3 := Tryz.isAgg3
  have z3 := Tryz.sizeOf3
  have u4 := Tryz.underlying4
  have a4 := Tryz.isAgg4
  have z4 := Tryz.sizeOf4
  have u5 := Tryz.underlying5
  have a5 := Tryz.isAgg5
  have z5 := Tryz.sizeOf5
  have hS : Tryz.prog.underlying 109 = some (.struct (Tryz.prog.fieldsOf 109)) := by kernel_rfl
  have hp : Tryz.prog.stoodInHeld 109 = false := by kernel_rfl
  rw [run_eql_struct, show (10000 : Nat) = 9999 + 1 from rfl, run_equalIn_agg w 9999 109 _ _ hS hp]
  simp only [Program.fieldsOf, Tryz.underlying109]
  go_simp
  unfold plainB7 strEq
  by_cases e1 : k = k2 <;> by_cases e2 : l = l2 <;> by_cases e3 : h = h2 <;> by_cases e4 : b = b2 <;> by_cases e5 : br.toList = br2.toList <;> by_cases e6 : op.toList = op2.toList <;> by_cases e7 : su = su2 <;> simp [e1, e2, e3, e4, e5, e6, e7]
theorem guard109 (op : BinOp) (x y : Operand) (xs ys : Array Value) (w : World) : (eqGuard op 109 x y (.agg xs) (.agg ys)).run Tryz.prog w = .ok () w := run_eqGuard_agg w op 109 x y xs ys (by kernel_rfl)

theorem zeroB_plain (t' : Ty) : zeroB t' = (plainB7 t'.kind t'.low t'.high t'.branded t'.brand t'.opaq t'.super t'.kind 0 0 false ByteArray.empty ByteArray.empty 0 && decide (t'.parts.length + t'.methods.length + t'.overs.length = 0)) := by
  unfold zeroB plainB7
  rw [strEq_empty, strEq_empty]
  cases t'.branded <;> simp
theorem heap_alloc_self (w : World) (o : Obj) : (w.alloc o).heap[w.heap.size]? = some o := by simp only [World.alloc]; exact Array.getElem?_push_size
set_option maxRecDepth 100000 in
set_option maxHeartbeats 8000000 in
theorem right_rule (f : Nat) (ok : Graph → Ty → Bool) (aft : Ty → Ty) (hR : Rule f ok aft) (w : World) (gv : Value) (g : Graph) (t : Ty) (vp vm vo : Value) (hg : Sl tyE w gv g) (hgn : g.length ≤ 1048576) (hG : Glob w) (hof : TyOf w t vp vm vo) (hs : TySmall t)
    (k : Nat) (hk : t.kind = k) (hk1 : 1 ≤ k) (hk2 : k < 14) (hcell : rulesV.cells[k]? = some (fn f)) (hcf : ∀ args w', (callFunc f args).run Tryz.prog w' = .ok (.enter f args) w') (hl1 : (aft t).parts.length ≤ 1048576) (hl2 : (aft t).methods.length ≤ 1048576) (hl3 : (aft t).overs.length ≤ 1048576) (hnil : ∀ w', (binOp .eql 151 (.func (.func f) #[] #[]) .nilFunc).run Tryz.prog w' = .ok (.bool false) w') :
    Calls Tryz.prog 62 #[.agg #[gv], tyV t vp vm vo] w (Ret w (.bool (ok g t && zeroB (aft t)))) := by
  obtain ⟨A, cap, rfl⟩ := hg.len
  obtain ⟨A1, cap1, rfl⟩ := hof.parts.len
  obtain ⟨A2, cap2, rfl⟩ := hof.methods.len
  obtain ⟨A3, cap3, rfl⟩ := hof.overs.len
  have Hrules := Lib.hid (fun w => rules_any w)
  have Hrule := fun (w2 : World) (hEx : Ext w w2) hbx => hR w w2 _ g (w.heap.size + 1) t _ _ _ hEx (by omega) hG hg hgn hof hs hbx
  rw [zeroB_plain]
  generalize ok g t = r at Hrule ⊢
  generalize aft t = t' at Hrule hl1 hl2 hl3 ⊢
  replace Hrule := Lib.hid Hrule
  have heq := fun w' => eql_plain t'.kind t'.low t'.high t'.branded t'.brand t'.opaq t'.super t'.kind 0 0 false ByteArray.empty ByteArray.empty 0 w'
  have hsum : (((t'.parts.length : Int) + (t'.methods.length : Int) + (t'.overs.length : Int)) == 0) = decide (t'.parts.length + t'.methods.length + t'.overs.length = 0) := by
    rw [Bool.eq_iff_iff, beq_iff_eq, decide_eq_true_eq]; omega
  generalize plainB7 t'.kind t'.low t'.high t'.branded t'.brand t'.opaq t'.super t'.kind 0 0 false ByteArray.empty ByteArray.empty 0 = q at heq ⊢
  generalize decide (t'.parts.length + t'.methods.length + t'.overs.length = 0) = D at hsum ⊢
  have Heq := Lib.hid heq
  have Hsum := Lib.hid hsum
  clear heq hsum
  have Hcell := Lib.hid hcell
  have Hk := Lib.hid hk
  clear hcell hR hG hof hs hg
  unfold tyV
  go_enter Tryz.func62, Tryz.ntmps62
  go_wp2_with fail
  refine (Hrules.out _).mono ?_
  rintro e w1 ⟨rfl, hx1⟩
  have hbx := heap_alloc_self (w.alloc (.cells #[.slice A g.length cap] 77)) (.cells #[.int .u8 k, .int .i64 t.low, .int .i64 t.high, .bool t.branded, .string t.brand, .string t.opaq, .int .i64 t.super, .slice A1 t.parts.length cap1, .slice A2 t.methods.length cap2, .slice A3 t.overs.length cap3] 42)
  rw [World.size_alloc] at hbx
  have Hbx := Lib.hid (show TyBox w1 (w.heap.size + 1) t (.slice A1 t.parts.length cap1) (.slice A2 t.methods.length cap2) (.slice A3 t.overs.length cap3) from by unfold TyBox; rw [Hk.out]; exact hx1.heap hbx)
  have Hx1 := Lib.hid ((((Ext.refl w).alloc (.cells #[.slice A g.length cap] 77)).alloc _).trans hx1)
  have hgc := hx1.cell (v := .slice A g.length cap) (p := ⟨w.heap.size, 0, none⟩) (by simp)
  clear hbx hx1
  unfold rulesV fn
  go_upto_region 2 with fail
  have k0 := (Hbx.out.ext ((Ext.refl w1).alloc (.cells rulesV.cells 152))).at.c0
  have hkg := ((Ext.refl w1).alloc (.cells rulesV.cells 152)).cell hgc
  have hkr : (w1.alloc (.cells rulesV.cells 152)).cell? ⟨w1.heap.size, k, none⟩ = some (.func (.func f) #[] #[]) := by rw [World.cell?_alloc_new]; exact Hcell.out
  have Hxr := Lib.hid (Hx1.out.alloc (.cells rulesV.cells 152)).drew
  have Hbr := Lib.hid ((Hbx.out.ext ((Ext.refl w1).alloc (.cells rulesV.cells 152))).ext (Ext.refl _).drew)
  have hne : w1.heap.size ≠ w.heap.size + 1 := by have := Hbx.out.lt; omega
  have hne2 : w1.heap.size ≠ w.heap.size := by have := Hbx.out.lt; omega
  rw [Hk.out] at k0
  unfold rulesV fn at k0 hkg hkr Hxr Hbr
  simp only [Value.cells] at k0 hkg hkr Hxr Hbr
  generalize w1.alloc (.cells #[.nilFunc, .func (.func 155) #[] #[], .func (.func 155) #[] #[], .func (.func 156) #[] #[], .func (.func 155) #[] #[], .func (.func 155) #[] #[], .func (.func 155) #[] #[], .func (.func 155) #[] #[], .func (.func 155) #[] #[], .func (.func 157) #[] #[], .func (.func 158) #[] #[], .func (.func 157) #[] #[], .func (.func 159) #[] #[], .func (.func 160) #[] #[]] 152) = w2 at k0 hkg hkr Hxr Hbr ⊢
  have hk14 : (k : Int) < 14 := by omega
  have hk00 : (0 : Int) ≤ (k : Int) := by omega
  have hwr : IntKind.i64.wrap (k : Int) = k := IntWalk.i64_in _ (by omega)
  have hd14 : decide ((14 : Int) ≤ (k : Int)) = false := by simp; omega
  generalize w1.heap.size = B5 at hkr hne hne2 ⊢
  clear Hbx Hx1 hgc
  go_still_tail 17, (by kernel_rfl)
  change wpList _ _ _ _ _ w2.drew
  generalize w2.drew = w3 at Hxr Hbr ⊢
  clear k0 hkg hkr
  go_wp2_with fail
  refine (Hrule.out _ Hxr.out Hbr.out).mono ?_
  rintro e wc ⟨rfl, hx3, vp3, vm3, vo3, hb3, ⟨Ap3, cp3, rfl⟩, ⟨Am3, cm3, rfl⟩, ⟨Ao3, co3, rfl⟩⟩
  have Hx3 := Lib.hid hx3
  have Hb3 := Lib.hid hb3
  clear hx3 hb3 Hxr Hbr
  obtain ⟨d0, d1, d2, d3, d4, d5, d6, d7, d8, d9⟩ := Hb3.out.at
  simp only [Nat.zero_add] at d0 d1 d2 d3 d4 d5 d6 d7 d8 d9
  cases r
  · go_wp2_with fail
    go_ret
    exact ⟨rfl, Hx3.out⟩
  go_wp2_with fail
  refine (plainOf_any wc t' Ap3 Am3 Ao3 _ _ _ cp3 cm3 co3).mono ?_
  rintro e w4 ⟨rfl, hx4⟩
  have Hx4 := Lib.hid (Hx3.out.trans hx4)
  have Hb4 := Lib.hid (Hb3.out.ext hx4)
  clear d0 d1 d2 d3 d4 d5 d6 d7 d8 d9 hx4
  obtain ⟨d0, d1, d2, d3, d4, d5, d6, d7, d8, d9⟩ := Hb4.out.at
  simp only [Nat.zero_add] at d0 d1 d2 d3 d4 d5 d6 d7 d8 d9
  have hl4 : w.heap.size + 1 < w4.heap.size := Hb4.out.lt
  have g109 := fun x y xs ys w => guard109 .eql x y xs ys w
  have heq : ∀ w', (binOp .eql 109 (.agg #[.int .u8 t'.kind, .int .i64 t'.low, .int .i64 t'.high, .bool t'.branded, .string t'.brand, .string t'.opaq, .int .i64 t'.super]) (.agg #[.int .u8 t'.kind, .int .i64 0, .int .i64 0, .bool false, .string ⟨#[]⟩, .string ⟨#[]⟩, .int .i64 0])).run Tryz.prog w' = .ok (.bool q) w' := Heq.out
  have hsum := Hsum.out
  unfold plainV
  cases q <;> cases D
  all_goals
    go_wp2_with fail
    go_ret
    exact ⟨rfl, Hx4.out.alloc _⟩
end Go.Proofs.YtldnjnnhfeobdaaGreatDoor
/- Contract: right. Conditions: lengths below 2^20. -/
namespace Go.Proofs.YtldnjnnhfeobdaaGreatDoor
set_option linter.all false
set_option linter.unusedSimpArgs false
set_option linter.unusedVariables false
open Go.RowKit Go.Shelf

set_option maxRecDepth 100000 in
set_option maxHeartbeats 8000000 in
theorem right_big (w : World) (gv : Value) (g : Graph) (t : Ty) (vp vm vo : Value) (hg : Sl tyE w gv g) (hof : TyOf w t vp vm vo)
    (k : Nat) (hk : t.kind = k) (hk1 : 14 ≤ k) (hk2 : k ≤ 255) :
    Calls Tryz.prog 62 #[.agg #[gv], tyV t vp vm vo] w (Ret w (.bool false)) := by
  obtain ⟨A, cap, rfl⟩ := hg.len
  obtain ⟨A1, cap1, rfl⟩ := hof.parts.len
  obtain ⟨A2, cap2, rfl⟩ := hof.methods.len
  obtain ⟨A3, cap3, rfl⟩ := hof.overs.len
  have Hrules := Lib.hid (fun w => rules_any w)
  have Hk := Lib.hid hk
  clear hof hg
  unfold tyV
  go_enter Tryz.func62, Tryz.ntmps62
  go_wp2_with fail
  refine (Hrules.out _).mono ?_
  rintro e w1 ⟨rfl, hx1⟩
  have hbx := heap_alloc_self (w.alloc (.cells #[.slice A g.length cap] 77)) (.cells #[.int .u8 k, .int .i64 t.low, .int .i64 t.high, .bool t.branded, .string t.brand, .string t.opaq, .int .i64 t.super, .slice A1 t.parts.length cap1, .slice A2 t.methods.length cap2, .slice A3 t.overs.length cap3] 42)
  rw [World.size_alloc] at hbx
  have Hbx := Lib.hid (show TyBox w1 (w.heap.size + 1) t (.slice A1 t.parts.length cap1) (.slice A2 t.methods.length cap2) (.slice A3 t.overs.length cap3) from by unfold TyBox; rw [Hk.out]; exact hx1.heap hbx)
  have Hx1 := Lib.hid ((((Ext.refl w).alloc (.cells #[.slice A g.length cap] 77)).alloc _).trans hx1)
  have hgc := hx1.cell (v := .slice A g.length cap) (p := ⟨w.heap.size, 0, none⟩) (by simp)
  clear hbx hx1
  unfold rulesV fn
  go_upto_region 2 with fail
  have k0 := (Hbx.out.ext ((Ext.refl w1).alloc (.cells rulesV.cells 152))).at.c0
  have hkg := ((Ext.refl w1).alloc (.cells rulesV.cells 152)).cell hgc
  have Hxr := Lib.hid (Hx1.out.alloc (.cells rulesV.cells 152)).drew
  have Hbr := Lib.hid ((Hbx.out.ext ((Ext.refl w1).alloc (.cells rulesV.cells 152))).ext (Ext.refl _).drew)
  have hne : w1.heap.size ≠ w.heap.size + 1 := by have := Hbx.out.lt; omega
  have hne2 : w1.heap.size ≠ w.heap.size := by have := Hbx.out.lt; omega
  rw [Hk.out] at k0
  unfold rulesV fn at k0 hkg Hxr Hbr
  simp only [Value.cells] at k0 hkg Hxr Hbr
  generalize w1.alloc (.cells #[.nilFunc, .func (.func 155) #[] #[], .func (.func 155) #[] #[], .func (.func 156) #[] #[], .func (.func 155) #[] #[], .func (.func 155) #[] #[], .func (.func 155) #[] #[], .func (.func 155) #[] #[], .func (.func 155) #[] #[], .func (.func 157) #[] #[], .func (.func 158) #[] #[], .func (.func 157) #[] #[], .func (.func 159) #[] #[], .func (.func 160) #[] #[]] 152) = w2 at k0 hkg Hxr Hbr ⊢
  have hk00 : (0 : Int) ≤ (k : Int) := by omega
  have hk255 : (k : Int) ≤ 255 := by omega
  have hwr : IntKind.i64.wrap (k : Int) = k := IntWalk.i64_in _ (by omega)
  have hd14 : decide ((14 : Int) ≤ (k : Int)) = true := by simp; omega
  generalize w1.heap.size = B5 at hne hne2 ⊢
  clear Hbx Hx1 hgc
  go_still_tail 17, (by kernel_rfl)
  change wpList _ _ _ _ _ w2.drew
  generalize w2.drew = w3 at Hxr Hbr ⊢
  clear k0 hkg
  go_wp2_with fail
  go_ret
  exact ⟨rfl, Hxr.out⟩

set_option maxRecDepth 100000 in
set_option maxHeartbeats 8000000 in
theorem right_zero (w : World) (gv : Value) (g : Graph) (t : Ty) (vp vm vo : Value) (hg : Sl tyE w gv g) (hof : TyOf w t vp vm vo)
    (k : Nat) (hk : t.kind = k) (hk0 : k = 0) :
    Calls Tryz.prog 62 #[.agg #[gv], tyV t vp vm vo] w (Ret w (.bool false)) := by
  obtain ⟨A, cap, rfl⟩ := hg.len
  obtain ⟨A1, cap1, rfl⟩ := hof.parts.len
  obtain ⟨A2, cap2, rfl⟩ := hof.methods.len
  obtain ⟨A3, cap3, rfl⟩ := hof.overs.len
  have Hrules := Lib.hid (fun w => rules_any w)
  have Hk := Lib.hid hk
  have Hk0 := Lib.hid hk0
  clear hk0
  clear hof hg
  unfold tyV
  go_enter Tryz.func62, Tryz.ntmps62
  go_wp2_with fail
  refine (Hrules.out _).mono ?_
  rintro e w1 ⟨rfl, hx1⟩
  have hbx := heap_alloc_self (w.alloc (.cells #[.slice A g.length cap] 77)) (.cells #[.int .u8 k, .int .i64 t.low, .int .i64 t.high, .bool t.branded, .string t.brand, .string t.opaq, .int .i64 t.super, .slice A1 t.parts.length cap1, .slice A2 t.methods.length cap2, .slice A3 t.overs.length cap3] 42)
  rw [World.size_alloc] at hbx
  have Hbx := Lib.hid (show TyBox w1 (w.heap.size + 1) t (.slice A1 t.parts.length cap1) (.slice A2 t.methods.length cap2) (.slice A3 t.overs.length cap3) from by unfold TyBox; rw [Hk.out]; exact hx1.heap hbx)
  have Hx1 := Lib.hid ((((Ext.refl w).alloc (.cells #[.slice A g.length cap] 77)).alloc _).trans hx1)
  have hgc := hx1.cell (v := .slice A g.length cap) (p := ⟨w.heap.size, 0, none⟩) (by simp)
  clear hbx hx1
  unfold rulesV fn
  go_upto_region 2 with fail
  have k0 := (Hbx.out.ext ((Ext.refl w1).alloc (.cells rulesV.cells 152))).at.c0
  have hkg := ((Ext.refl w1).alloc (.cells rulesV.cells 152)).cell hgc
  have hkr : (w1.alloc (.cells rulesV.cells 152)).cell? ⟨w1.heap.size, k, none⟩ = some .nilFunc := by rw [World.cell?_alloc_new, Hk0.out]; rfl
  have Hxr := Lib.hid (Hx1.out.alloc (.cells rulesV.cells 152)).drew
  have Hbr := Lib.hid ((Hbx.out.ext ((Ext.refl w1).alloc (.cells rulesV.cells 152))).ext (Ext.refl _).drew)
  have hne : w1.heap.size ≠ w.heap.size + 1 := by have := Hbx.out.lt; omega
  have hne2 : w1.heap.size ≠ w.heap.size := by have := Hbx.out.lt; omega
  rw [Hk.out] at k0
  unfold rulesV fn at k0 hkg hkr Hxr Hbr
  simp only [Value.cells] at k0 hkg hkr Hxr Hbr
  generalize w1.alloc (.cells #[.nilFunc, .func (.func 155) #[] #[], .func (.func 155) #[] #[], .func (.func 156) #[] #[], .func (.func 155) #[] #[], .func (.func 155) #[] #[], .func (.func 155) #[] #[], .func (.func 155) #[] #[], .func (.func 155) #[] #[], .func (.func 157) #[] #[], .func (.func 158) #[] #[], .func (.func 157) #[] #[], .func (.func 159) #[] #[], .func (.func 160) #[] #[]] 152) = w2 at k0 hkg hkr Hxr Hbr ⊢
  have hk14 : (k : Int) < 14 := by have := Hk0.out; omega
  have hk00 : (0 : Int) ≤ (k : Int) := by omega
  have hwr : IntKind.i64.wrap (k : Int) = k := IntWalk.i64_in _ (by omega)
  have hd14 : decide ((14 : Int) ≤ (k : Int)) = false := by simp; omega
  have hnil : ∀ w', (binOp .eql 151 .nilFunc .nilFunc).run Tryz.prog w' = .ok (.bool true) w' := fun w' => by kernel_rfl
  generalize w1.heap.size = B5 at hkr hne hne2 ⊢
  clear Hbx Hx1 hgc
  go_still_tail 17, (by kernel_rfl)
  change wpList _ _ _ _ _ w2.drew
  generalize w2.drew = w3 at Hxr Hbr ⊢
  clear k0 hkg hkr
  go_wp2_with fail
  go_ret
  exact ⟨rfl, Hxr.out⟩

theorem right_any (w : World) (gv : Value) (g : Graph) (t : Ty) (vp vm vo : Value) (hg : Sl tyE w gv g) (hgn : g.length ≤ 1048576) (hG : Glob w) (hof : TyOf w t vp vm vo) (hs : TySmall t) (hk : 0 ≤ t.kind ∧ t.kind ≤ 255) :
    Calls Tryz.prog 62 #[.agg #[gv], tyV t vp vm vo] w (Ret w (.bool (rightB g t))) := by
  obtain ⟨k, hk'⟩ := Int.eq_ofNat_of_zero_le hk.1
  have hp := hs.parts
  have hm := hs.methods
  have ho := hs.overs
  have h0 : ([] : List Part).length ≤ 1048576 := by simp
  have h0m : ([] : List Method).length ≤ 1048576 := by simp
  have h0o : ([] : List Over).length ≤ 1048576 := by simp
  by_cases hb : 14 ≤ k
  · have e : rightB g t = false := by
      unfold rightB
      rw [if_neg (by omega), if_neg (by omega), if_neg (by omega), if_neg (by omega), if_neg (by omega), decide_eq_false (by omega)]; rfl
    rw [e]
    exact right_big w gv g t vp vm vo hg hof k hk' hb (by omega)
  by_cases hz : k = 0
  · have e : rightB g t = false := by
      unfold rightB
      rw [if_neg (by omega), if_neg (by omega), if_neg (by omega), if_neg (by omega), if_neg (by omega), decide_eq_false (by omega)]; rfl
    rw [e]
    exact right_zero w gv g t vp vm vo hg hof k hk' hz
  have plainR : k = 1 ∨ k = 2 ∨ k = 4 ∨ k = 5 ∨ k = 6 ∨ k = 7 ∨ k = 8 → rightB g t = (true && zeroB t) := fun h => by
    unfold rightB
    rw [if_neg (by omega), if_neg (by omega), if_neg (by omega), if_neg (by omega), if_neg (by omega), decide_eq_true (by omega)]
  by_cases h1 : k = 1
  · have e : rightB g t = (true && zeroB t) := plainR (by omega)
    rw [e]
    exact right_rule 155 _ _ nothing_rule w gv g t vp vm vo hg hgn hG hof hs k hk' (by omega) (by omega) (by rw [h1]; rfl) (enters_of Tryz.func155 (by kernel_rfl) rfl) hp hm ho (fun w' => by kernel_rfl)
  by_cases h2 : k = 2
  · have e : rightB g t = (true && zeroB t) := plainR (by omega)
    rw [e]
    exact right_rule 155 _ _ nothing_rule w gv g t vp vm vo hg hgn hG hof hs k hk' (by omega) (by omega) (by rw [h2]; rfl) (enters_of Tryz.func155 (by kernel_rfl) rfl) hp hm ho (fun w' => by kernel_rfl)
  by_cases h4 : k = 4
  · have e : rightB g t = (true && zeroB t) := plainR (by omega)
    rw [e]
    exact right_rule 155 _ _ nothing_rule w gv g t vp vm vo hg hgn hG hof hs k hk' (by omega) (by omega) (by rw [h4]; rfl) (enters_of Tryz.func155 (by kernel_rfl) rfl) hp hm ho (fun w' => by kernel_rfl)
  by_cases h5 : k = 5
  · have e : rightB g t = (true && zeroB t) := plainR (by omega)
    rw [e]
    exact right_rule 155 _ _ nothing_rule w gv g t vp vm vo hg hgn hG hof hs k hk' (by omega) (by omega) (by rw [h5]; rfl) (enters_of Tryz.func155 (by kernel_rfl) rfl) hp hm ho (fun w' => by kernel_rfl)
  by_cases h6 : k = 6
  · have e : rightB g t = (true && zeroB t) := plainR (by omega)
    rw [e]
    exact right_rule 155 _ _ nothing_rule w gv g t vp vm vo hg hgn hG hof hs k hk' (by omega) (by omega) (by rw [h6]; rfl) (enters_of Tryz.func155 (by kernel_rfl) rfl) hp hm ho (fun w' => by kernel_rfl)
  by_cases h7 : k = 7
  · have e : rightB g t = (true && zeroB t) := plainR (by omega)
    rw [e]
    exact right_rule 155 _ _ nothing_rule w gv g t vp vm vo hg hgn hG hof hs k hk' (by omega) (by omega) (by rw [h7]; rfl) (enters_of Tryz.func155 (by kernel_rfl) rfl) hp hm ho (fun w' => by kernel_rfl)
  by_cases h8 : k = 8
  · have e : rightB g t = (true && zeroB t) := plainR (by omega)
    rw [e]
    exact right_rule 155 _ _ nothing_rule w gv g t vp vm vo hg hgn hG hof hs k hk' (by omega) (by omega) (by rw [h8]; rfl) (enters_of Tryz.func155 (by kernel_rfl) rfl) hp hm ho (fun w' => by kernel_rfl)
  by_cases h3 : k = 3
  · have e : rightB g t = (rangedB g t && zeroB (noRange t)) := by unfold rightB; rw [if_pos (by omega)]
    rw [e]
    exact right_rule 156 _ _ ranged_rule w gv g t vp vm vo hg hgn hG hof hs k hk' (by omega) (by omega) (by rw [h3]; rfl) (enters_of Tryz.func156 (by kernel_rfl) rfl) hp hm ho (fun w' => by kernel_rfl)
  by_cases h9 : k = 9
  · have e : rightB g t = (heldB g t && zeroB (noParts t)) := by unfold rightB; rw [if_neg (by omega), if_pos (by omega)]
    rw [e]
    exact right_rule 157 _ _ held_rule w gv g t vp vm vo hg hgn hG hof hs k hk' (by omega) (by omega) (by rw [h9]; rfl) (enters_of Tryz.func157 (by kernel_rfl) rfl) h0 hm ho (fun w' => by kernel_rfl)
  by_cases h10 : k = 10
  · have e : rightB g t = (recordedB g t && zeroB (noParts t)) := by unfold rightB; rw [if_neg (by omega), if_neg (by omega), if_pos (by omega)]
    rw [e]
    exact right_rule 158 _ _ recorded_rule w gv g t vp vm vo hg hgn hG hof hs k hk' (by omega) (by omega) (by rw [h10]; rfl) (enters_of Tryz.func158 (by kernel_rfl) rfl) h0 hm ho (fun w' => by kernel_rfl)
  by_cases h11 : k = 11
  · have e : rightB g t = (heldB g t && zeroB (noParts t)) := by unfold rightB; rw [if_neg (by omega), if_pos (by omega)]
    rw [e]
    exact right_rule 157 _ _ held_rule w gv g t vp vm vo hg hgn hG hof hs k hk' (by omega) (by omega) (by rw [h11]; rfl) (enters_of Tryz.func157 (by kernel_rfl) rfl) h0 hm ho (fun w' => by kernel_rfl)
  by_cases h12 : k = 12
  · have e : rightB g t = (objectsB g t && zeroB (noObject t)) := by unfold rightB; rw [if_neg (by omega), if_neg (by omega), if_neg (by omega), if_pos (by omega)]
    rw [e]
    exact right_rule 159 _ _ objects_rule w gv g t vp vm vo hg hgn hG hof hs k hk' (by omega) (by omega) (by rw [h12]; rfl) (enters_of Tryz.func159 (by kernel_rfl) rfl) h0 h0m h0o (fun w' => by kernel_rfl)
  by_cases h13 : k = 13
  · have e : rightB g t = (opaqueB g t && zeroB (noOpaque t)) := by unfold rightB; rw [if_neg (by omega), if_neg (by omega), if_neg (by omega), if_neg (by omega), if_pos (by omega)]
    rw [e]
    exact right_rule 160 _ _ opaque_rule w gv g t vp vm vo hg hgn hG hof hs k hk' (by omega) (by omega) (by rw [h13]; rfl) (enters_of Tryz.func160 (by kernel_rfl) rfl) hp hm ho (fun w' => by kernel_rfl)
  omega
end Go.Proofs.YtldnjnnhfeobdaaGreatDoor
