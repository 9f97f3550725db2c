/- Parts of the proof, joined: What the reference keeps in memory while it turns a type. No condition; Contract of the reference: a type with other references. Conditions: a fine type, a list that has them all. -/
import Derived.Test.YtldnjnnhfeobdaaGreatDoorG07
import Derived.Test.YtldnjnnhfeobdaaGreatDoorG11
import Derived.Test.YtldnjnnhfeobdaaGreatDoorG12
import Derived.Test.YtldnjnnhfeobdaaGreatDoorG08
namespace Go.Proofs.YtldnjnnhfeobdaaGreatDoor
set_option linter.all false
set_option linter.unusedSimpArgs false
set_option linter.unusedVariables false
open Go.RowKit Go.Shelf

/-- the number that a list has for another one -/
def lookI (ts : List Int) (x : Int) : Int := ts.getD x.toNat 0
/-- all blocks below lo but o lie as they lay -/
def Kb (lo o : Nat) (w w' : World) : Prop := ∀ b, b < lo → b ≠ o → w'.heap[b]? = w.heap[b]?
section
variable {lo o : Nat} {w w' w'' : World}
theorem Kb.refl : Kb lo o w w := fun _ _ _ => rfl
theorem Kb.trans (h : Kb lo o w w') (k : Kb lo o w' w'') : Kb lo o w w'' := fun b hb ho => (k b hb ho).trans (h b hb ho)
theorem Kb.drew (h : Kb lo o w w') : Kb lo o w w'.drew := h
theorem Kb.alloc (h : Kb lo o w w') (hl : lo ≤ w'.heap.size) (x : Obj) : Kb lo o w (w'.alloc x) := fun b hb ho => (Below.heap_alloc _ _ _ (by omega)).trans (h b hb ho)
theorem Kb.grown (h : Kb lo o w w') {row : Option Nat} (hg : w'.grownBy w'' row) (hl : lo ≤ w'.heap.size) (hr : ∀ b, row = some b → lo ≤ b) : Kb lo o w w'' :=
  fun b hb ho => (hg.block b (by omega) (fun e => by have := hr b e.symm; omega)).trans (h b hb ho)
theorem Kb.set (h : Kb lo o w w') (i : Nat) (v : Value) : Kb lo o w (w'.setCell ⟨o, i, none⟩ v) := fun b hb ho => (Below.heap_setCell _ _ _ _ ho).trans (h b hb ho)
theorem Kb.setHi (h : Kb lo o w w') {b : Nat} (hl : lo ≤ b) (i : Nat) (v : Value) : Kb lo o w (w'.setCell ⟨b, i, none⟩ v) := fun c hb ho => (Below.heap_setCell _ _ _ _ (by simp; omega)).trans (h c hb ho)
theorem Kb.ext (h : Kb lo o w w') (hx : Ext w' w'') (hl : lo ≤ w'.heap.size) : Kb lo o w w'' := fun b hb ho => (Below.block hx b (by omega)).trans (h b hb ho)
theorem Kb.less {lo' : Nat} (h : Kb lo o w w') (hl : lo' ≤ lo) : Kb lo' o w w' := fun b hb ho => h b (by omega) ho
theorem Kb.cell (h : Kb lo o w w') {b i : Nat} {v : Value} (hc : w.cell? ⟨b, i, none⟩ = some v) (hb : b < lo) (ho : b ≠ o) : w'.cell? ⟨b, i, none⟩ = some v :=
  (World.cell?_of_block (w := w) (a := ⟨b, i, none⟩) (h b hb ho)).trans hc
theorem Kb.heap (h : Kb lo o w w') {b : Nat} {x : Obj} (hc : w.heap[b]? = some x) (hb : b < lo) (ho : b ≠ o) : w'.heap[b]? = some x := (h b hb ho).trans hc
theorem Kb.slF {α : Type} {E : Elt α} {F : Nat → Prop} {v : Value} {xs : List α} (h : Kb lo o w w') (hs : SlF F E w v xs) (hF : ∀ b, F b → b < lo ∧ b ≠ o) : SlF F E w' v xs :=
  hs.mono (fun b hb _ => h b (hF b hb).1 (hF b hb).2) (fun _ h _ => h)
end
theorem ownsRow_ext {w w' : World} {base k n : Nat} {e : TypeId} {v : Value} {xs : List Value} (h : w.ownsRow base e k v n xs) (hx : Ext w w') : w'.ownsRow base e k v n xs :=
  h.kept (row := none) ⟨Below.os hx, Below.tape hx, Below.output hx, Below.size hx, fun k hk _ => Below.block hx k hk⟩ (by cases v.ownBlock <;> simp)
theorem grown_set (W : World) (b i : Nat) (v : Value) : W.grownBy (W.setCell ⟨b, i, none⟩ v) (some b) :=
  ⟨rfl, rfl, rfl, (KeepsWalks.setCell W _ v).size, fun k _ hk => Below.heap_setCell _ _ _ k (fun e => hk (by rw [e]))⟩
theorem Own.ne {α : Type} {F : Nat → Prop} {E : Elt α} {w : World} {base : Nat} {e : TypeId} {v : Value} {xs : List α} (h : Own F E w base e v xs) {b : Nat} (hb : b < base) : v.ownBlock = none ∨ v.ownBlock ≠ some b := by
  cases e : v.ownBlock with
  | none => exact .inl rfl
  | some k => exact .inr fun e2 => by injection e2 with e2; have := (h.lt k e).1; omega
/-- own blocks of the call that lie between -/
def Btw (lo hi : Nat) : Nat → Prop := fun b => lo ≤ b ∧ b < hi
/-- the boxes: of the type, of the result, of the type under way -/
structure TuA (w : World) (t : Ty) (vp vm vo : Value) (s : Int) (up um uo : Value) (wr : World) : Prop where
  ext : Ext w wr
  abox : TyBox wr w.heap.size t vp vm vo
  rbox : TyBox wr (w.heap.size + 1) ty0 (.slice none 0 0) (.slice none 0 0) (.slice none 0 0)
  obox : TyBox wr (w.heap.size + 1 + 1) { t with super := s } up um uo
section
variable {w wr wr' : World} {t : Ty} {vp vm vo : Value} {s : Int} {up um uo : Value}
theorem TuA.later (h : TuA w t vp vm vo s up um uo wr) (hx : Ext wr wr') : TuA w t vp vm vo s up um uo wr' :=
  ⟨h.ext.trans hx, h.abox.ext hx, h.rbox.ext hx, h.obox.ext hx⟩
theorem TuA.lt (h : TuA w t vp vm vo s up um uo wr) : w.heap.size + 1 + 1 < wr.heap.size := h.obox.lt
theorem TuA.grown (h : TuA w t vp vm vo s up um uo wr) {row : Option Nat} (hg : wr.grownBy wr' row) (hr : ∀ b, row = some b → w.heap.size + 3 ≤ b) : TuA w t vp vm vo s up um uo wr' := by
  have hl := h.lt
  have hb : ∀ b, b < w.heap.size + 3 → wr'.heap[b]? = wr.heap[b]? := fun b hb => hg.block b (by omega) (fun e => by have := hr b e.symm; omega)
  refine ⟨Below.grown h.ext hg (by omega) (fun k hk => by have := hr k hk; omega), ?_, ?_, ?_⟩
  · unfold TyBox; rw [hb _ (by omega)]; exact h.abox
  · unfold TyBox; rw [hb _ (by omega)]; exact h.rbox
  · unfold TyBox; rw [hb _ (by omega)]; exact h.obox
theorem TuA.set (h : TuA w t vp vm vo s up um uo wr) (i : Nat) (v : Value) {s' : Int} {up' um' uo' : Value} (hb : TyBox (wr.setCell ⟨w.heap.size + 1 + 1, i, none⟩ v) (w.heap.size + 1 + 1) { t with super := s' } up' um' uo') :
    TuA w t vp vm vo s' up' um' uo' (wr.setCell ⟨w.heap.size + 1 + 1, i, none⟩ v) :=
  ⟨h.ext.setCell (by simp; omega) _, by unfold TyBox; rw [Below.heap_setCell _ _ _ _ (by simp; omega)]; exact h.abox, by unfold TyBox; rw [Below.heap_setCell _ _ _ _ (by simp)]; exact h.rbox, hb⟩
theorem TuA.set6 (h : TuA w t vp vm vo s up um uo wr) (n : Int) : TuA w t vp vm vo n up um uo (wr.setCell ⟨w.heap.size + 1 + 1, 6, none⟩ (.int .i64 n)) := h.set 6 _ (heap_set h.obox 6 _)
theorem TuA.set7 (h : TuA w t vp vm vo s up um uo wr) (v : Value) : TuA w t vp vm vo s v um uo (wr.setCell ⟨w.heap.size + 1 + 1, 7, none⟩ v) := h.set 7 _ (heap_set h.obox 7 _)
theorem TuA.set8 (h : TuA w t vp vm vo s up um uo wr) (v : Value) : TuA w t vp vm vo s up v uo (wr.setCell ⟨w.heap.size + 1 + 1, 8, none⟩ v) := h.set 8 _ (heap_set h.obox 8 _)
theorem TuA.set9 (h : TuA w t vp vm vo s up um uo wr) (v : Value) : TuA w t vp vm vo s up um v (wr.setCell ⟨w.heap.size + 1 + 1, 9, none⟩ v) := h.set 9 _ (heap_set h.obox 9 _)
end
end Go.Proofs.YtldnjnnhfeobdaaGreatDoor
/- Contract of the reference: a type with other references. Conditions: a fine type, a list that has them all. -/
namespace Go.Proofs.YtldnjnnhfeobdaaGreatDoor
set_option linter.all false
set_option linter.unusedSimpArgs false
set_option linter.unusedVariables false
open Go.RowKit Go.Shelf

set_option maxRecDepth 100000 in
set_option maxHeartbeats 16000000 in
theorem rturned_any (w : World) (n : Nat) (t : Ty) (vp vm vo tv : Value) (ts : List Int) (hof : TyOf w t vp vm vo) (hf : Fine n t) (hts : Sl intE w tv ts) (hn : ts.length ≤ 1048576) (hr : ∀ r ∈ refsL t, 0 ≤ r ∧ r < ts.length) :
    Calls Tryz.prog 22 #[tyV t vp vm vo, tv] w (RetP w (Res tyE w (turnT (lookI ts) t))) := by
  obtain ⟨A1, c1, e1, hp⟩ := hof.parts.part
  obtain ⟨A2, c2, e2, hm⟩ := hof.methods.method
  have hov := hof.overs
  obtain ⟨A3, c3, e3⟩ := hof.overs.len
  subst e1 e2 e3
  obtain ⟨At, ct, rfl, htc⟩ := hts.int
  have Hp := Lib.hid hp
  have Hm := Lib.hid hm
  have Hov := Lib.hid hov
  have Htc := Lib.hid htc
  have hpl := hf.parts
  have hml := hf.methods
  have hol := hf.overs
  have Hargs := Lib.hid hf.args
  have Hrai := Lib.hid hf.raises
  have Hr := Lib.hid hr
  clear hof hp hm hov htc hf hts hr
  unfold tyV
  go_enter Tryz.func22, Tryz.ntmps22
  go_upto_region 4 with fail
  have Hst : Hid (TuA w t (.slice A1 t.parts.length c1) (.slice A2 t.methods.length c2) (.slice A3 t.overs.length c3) t.super (.slice none 0 0) (.slice none 0 0) (.slice A3 t.overs.length c3) (((w.alloc (.cells #[.int .u8 t.kind, .int .i64 t.low, .int .i64 t.high, .bool t.branded, .string t.brand, .string t.opaq, .int .i64 t.super, .slice A1 t.parts.length c1, .slice A2 t.methods.length c2, .slice A3 t.overs.length c3] 42)).alloc (.cells #[.int .u8 0, .int .i64 0, .int .i64 0, .bool false, .string ⟨#[]⟩, .string ⟨#[]⟩, .int .i64 0, .slice none 0 0, .slice none 0 0, .slice none 0 0] 42)).alloc (.cells #[.int .u8 t.kind, .int .i64 t.low, .int .i64 t.high, .bool t.branded, .string t.brand, .string t.opaq, .int .i64 t.super, .slice none 0 0, .slice none 0 0, .slice A3 t.overs.length c3] 42))) := by
    have h1 := heap_alloc_self w (.cells #[.int .u8 t.kind, .int .i64 t.low, .int .i64 t.high, .bool t.branded, .string t.brand, .string t.opaq, .int .i64 t.super, .slice A1 t.parts.length c1, .slice A2 t.methods.length c2, .slice A3 t.overs.length c3] 42)
    have h2 := heap_alloc_self (w.alloc (.cells #[.int .u8 t.kind, .int .i64 t.low, .int .i64 t.high, .bool t.branded, .string t.brand, .string t.opaq, .int .i64 t.super, .slice A1 t.parts.length c1, .slice A2 t.methods.length c2, .slice A3 t.overs.length c3] 42)) (.cells #[.int .u8 0, .int .i64 0, .int .i64 0, .bool false, .string ⟨#[]⟩, .string ⟨#[]⟩, .int .i64 0, .slice none 0 0, .slice none 0 0, .slice none 0 0] 42)
    have h3 := heap_alloc_self ((w.alloc (.cells #[.int .u8 t.kind, .int .i64 t.low, .int .i64 t.high, .bool t.branded, .string t.brand, .string t.opaq, .int .i64 t.super, .slice A1 t.parts.length c1, .slice A2 t.methods.length c2, .slice A3 t.overs.length c3] 42)).alloc (.cells #[.int .u8 0, .int .i64 0, .int .i64 0, .bool false, .string ⟨#[]⟩, .string ⟨#[]⟩, .int .i64 0, .slice none 0 0, .slice none 0 0, .slice none 0 0] 42)) (.cells #[.int .u8 t.kind, .int .i64 t.low, .int .i64 t.high, .bool t.branded, .string t.brand, .string t.opaq, .int .i64 t.super, .slice none 0 0, .slice none 0 0, .slice A3 t.overs.length c3] 42)
    simp only [World.size_alloc] at h2 h3
    exact ⟨(((Ext.refl _).alloc _).alloc _).alloc _, (((Ext.refl _).alloc _).alloc _).heap h1, ((Ext.refl _).alloc _).heap h2, h3⟩
  generalize ((w.alloc (.cells #[.int .u8 t.kind, .int .i64 t.low, .int .i64 t.high, .bool t.branded, .string t.brand, .string t.opaq, .int .i64 t.super, .slice A1 t.parts.length c1, .slice A2 t.methods.length c2, .slice A3 t.overs.length c3] 42)).alloc (.cells #[.int .u8 0, .int .i64 0, .int .i64 0, .bool false, .string ⟨#[]⟩, .string ⟨#[]⟩, .int .i64 0, .slice none 0 0, .slice none 0 0, .slice none 0 0] 42)).alloc (.cells #[.int .u8 t.kind, .int .i64 t.low, .int .i64 t.high, .bool t.branded, .string t.brand, .string t.opaq, .int .i64 t.super, .slice none 0 0, .slice none 0 0, .slice A3 t.overs.length c3] 42) = w0 at Hst ⊢
  go_cut [6] (fun s wx => ∃ uo : Value, Hid (TuA w t (.slice A1 t.parts.length c1) (.slice A2 t.methods.length c2) (.slice A3 t.overs.length c3) t.super (.slice none 0 0) (.slice none 0 0) uo wx) ∧ Hid (SlF (Btw (w.heap.size + 3) wx.heap.size) overE wx uo t.overs))
  case first =>
    have a9 := heap_cell Hst.out.abox 9 _ rfl
    have lA := Hst.out.abox.lt
    have lO := Hst.out.obox.lt
    have o9 := heap_cell Hst.out.obox 9 _ rfl
    have f9 := heap_frozen Hst.out.obox 9
    go_wp2_with (at_builtin; refine own_append_any (F := fun b => w.heap.size + 3 ≤ b) overE flat_over (w.heap.size + 3) rfl _ _ 40 117 32 rfl slice40 _ _ [] t.overs rfl rfl (Own.made _ _ _ _ _ ?b1) (Hov.out.mono (Hst.out.ext.alloc _)) ?b2 ?b3 ?b4 ?_)
    case b1 => omega
    case b2 => omega
    case b3 => omega
    intro v1 w1 hown1 hg1
    obtain ⟨Aw, cw, ew⟩ := hown1.len
    (try rw [List.nil_append] at ew)
    subst ew
    have hs1 : TuA w t (.slice A1 t.parts.length c1) (.slice A2 t.methods.length c2) (.slice A3 t.overs.length c3) t.super (.slice none 0 0) (.slice none 0 0) (.slice A3 t.overs.length c3) w1 :=
      (Hst.out.later ((Ext.refl _).alloc _)).grown hg1 (fun b hb => by simp [Value.ownBlock] at hb; omega)
    clear a9 lA lO o9 f9
    have lA := hs1.abox.lt
    have lO := hs1.obox.lt
    have o9 := heap_cell hs1.obox 9 _ rfl
    have f9 := heap_frozen hs1.obox 9
    have hov1 : SlF (Btw (w.heap.size + 3) w1.heap.size) overE w1 (.slice Aw t.overs.length cw) t.overs := (hown1.sl (fun b hb => hb)).mono (fun _ _ _ => rfl) (fun b hb hlt => ⟨hb, hlt⟩)
    have Hs1 := Lib.hid hs1
    have Hov1 := Lib.hid hov1
    clear hs1 hov1 hown1 hg1 Hst
    go_wp2_with fail
    go_meet
    have hs2 := Hs1.out.set9 (.slice Aw t.overs.length cw)
    have hov2 : SlF (Btw (w.heap.size + 3) w1.heap.size) overE (w1.setCell ⟨w.heap.size + 1 + 1, 9, none⟩ (.slice Aw t.overs.length cw)) (.slice Aw t.overs.length cw) t.overs := Hov1.out.mono (fun b hb _ => Below.heap_setCell _ _ _ _ (by have := hb.1; simp; omega)) (fun _ h _ => h)
    have hsz : (w1.setCell ⟨w.heap.size + 1 + 1, 9, none⟩ (.slice Aw t.overs.length cw)).heap.size = w1.heap.size := by simp
    rw [← hsz] at hov2
    exact ⟨_, Lib.hid hs2, Lib.hid hov2⟩
  case rest =>
    clear Hst Hov
    obtain ⟨uo, Hst, Hov⟩ := hcut
    go_upto_region 5 with fail
    go_cut [26] (fun s wx => s = .bool (hasSuperB t.kind) ∧ wx = wc)
    case first =>
      have d0 := heap_cell Hst.out.abox 0 _ rfl
      have l0 := cell_lt d0
      by_cases h12 : t.kind = 12
      · have q : (t.kind == 12) = true := by simpa using h12
        have hs : hasSuperB t.kind = true := by unfold hasSuperB; simp [h12]
        have Hs := Lib.hid hs
        clear hs h12
        go_wp2_with fail
        go_meet
        rw [Hs.out]
        exact ⟨rfl, rfl⟩
      · have q : (t.kind == 12) = false := by rw [beq_eq_false_iff_ne]; exact h12
        by_cases h13 : t.kind = 13
        · have q' : (t.kind == 13) = true := by simpa using h13
          have hs : hasSuperB t.kind = true := by unfold hasSuperB; simp [h13]
          have Hs := Lib.hid hs
          clear hs h12 h13
          go_wp2_with fail
          go_meet
          rw [Hs.out]
          exact ⟨rfl, rfl⟩
        · have q' : (t.kind == 13) = false := by rw [beq_eq_false_iff_ne]; exact h13
          have hs : hasSuperB t.kind = false := by unfold hasSuperB; simp [h12, h13]
          have Hs := Lib.hid hs
          clear hs h12 h13
          go_wp2_with fail
          go_meet
          rw [Hs.out]
          exact ⟨rfl, rfl⟩
    case rest =>
      obtain ⟨rfl, hwc⟩ := hcut
      subst hwc
      go_upto_if 26 with fail
      go_cut [6] (fun s wx => Hid (TuA w t (.slice A1 t.parts.length c1) (.slice A2 t.methods.length c2) (.slice A3 t.overs.length c3) (turnT (lookI ts) t).super (.slice none 0 0) (.slice none 0 0) uo wx) ∧ Hid (SlF (Btw (w.heap.size + 3) wx.heap.size) overE wx uo t.overs))
      case first =>
        have lO := Hst.out.obox.lt
        have lA := Hst.out.abox.lt
        cases hs : hasSuperB t.kind with
        | false =>
          have hsu : (turnT (lookI ts) t).super = t.super := turn_super hs
          go_wp2_with fail
          go_meet
          rw [hsu]
          exact ⟨Hst, Hov⟩
        | true =>
          have hsu : (turnT (lookI ts) t).super = lookI ts t.super := turn_super' hs
          obtain ⟨s0, s1⟩ := Hr.out _ (refs_super hs)
          obtain ⟨j, hj⟩ := Int.eq_ofNat_of_zero_le s0
          have hjl : j < ts.length := by omega
          obtain ⟨bt, ot, rfl, ct0⟩ := Htc.out j hjl
          replace ct0 := Hst.out.ext.cell ct0
          have lt0 := cell_lt ct0
          have d6 : wc.cell? ⟨w.heap.size, 6, none⟩ = some (.int .i64 (j : Int)) := by rw [← hj]; exact heap_cell Hst.out.abox 6 _ rfl
          have o6 : wc.cell? ⟨w.heap.size + 1 + 1, 6, none⟩ = some (.int .i64 (j : Int)) := by rw [← hj]; exact heap_cell Hst.out.obox 6 _ rfl
          have f6 := heap_frozen Hst.out.obox 6
          have i0 : (0 : Int) ≤ (j : Int) := by omega
          have i1 : (j : Int) < (ts.length : Int) := by omega
          have hl : lookI ts t.super = ts[j] := by unfold lookI; rw [hj, Int.toNat_natCast, List.getD_eq_getElem?_getD, List.getElem?_eq_getElem hjl]; rfl
          rw [hl] at hsu
          generalize ts[j] = v at *
          have Hsu := Lib.hid hsu
          clear hsu hl hj s0 s1
          go_wp2_with fail
          go_meet
          rw [Hsu.out]
          refine ⟨Lib.hid (Hst.out.set6 v), Lib.hid ?_⟩
          have h := Hov.out.mono (w' := wc.setCell ⟨w.heap.size + 1 + 1, 6, none⟩ (.int .i64 v)) (G := Btw (w.heap.size + 3) wc.heap.size) (fun b hb _ => Below.heap_setCell _ _ _ _ (by have := hb.1; simp; omega)) (fun _ h _ => h)
          simpa using h
      case rest =>
        clear Hst Hov
        obtain ⟨Hst, Hov⟩ := hcut
        generalize hsp : (turnT (lookI ts) t).super = sp at *
        have Hsp := Lib.hid hsp
        clear hsp
        go_wp2_with fail
        go_loopw [6] (fun u wr => ∃ (k : Nat) (up : Value), k ≤ t.parts.length ∧ u = .int .i64 k ∧ Hid (TuA w t (.slice A1 t.parts.length c1) (.slice A2 t.methods.length c2) (.slice A3 t.overs.length c3) sp up (.slice none 0 0) uo wr) ∧ Hid (Own (fun b => wc.heap.size ≤ b) partE wr wc.heap.size 95 up ((t.parts.map (turnP (lookI ts))).take k)) ∧ Hid (SlF (Btw (w.heap.size + 3) wc.heap.size) overE wr uo t.overs) ∧ Hid (wc.heap.size ≤ wr.heap.size)) (fun u _ => t.parts.length - (intOf u).toNat)
        case atStart => exact ⟨0, _, by omega, rfl, Hst, Lib.hid (Own.nil _ _ _ _ _), Hov, Lib.hid (Nat.le_refl _)⟩
        case round =>
          have hN := Hst.out.lt
          have HN := Lib.hid hN
          clear Hst Hov hN
          obtain ⟨k, up, hk, rfl, Hst, Hown, Hov, Hge⟩ := hrel
          have a7 : wr.cell? ⟨w.heap.size, 7, none⟩ = some (.slice A1 t.parts.length c1) := heap_cell Hst.out.abox 7 _ rfl
          have lA := cell_lt a7
          by_cases hlt : k < t.parts.length
          · obtain ⟨b, off, rfl, p0, p1⟩ := Hp.out k hlt
            have hb := cell_lt p0
            replace p0 := Hst.out.ext.cell p0
            replace p1 := Hst.out.ext.cell p1
            have hpr : t.parts[k].type ∈ refsL t := by unfold refsL; simp only [List.mem_append, List.mem_map]; exact .inr (.inl ⟨_, List.getElem_mem hlt, rfl⟩)
            obtain ⟨s0, s1⟩ := Hr.out _ hpr
            have hsn := take_map_snoc (turnP (lookI ts)) t.parts k hlt
            generalize t.parts[k] = p at *
            obtain ⟨pn, pt⟩ := p
            simp only at p0 p1 s0 s1 hsn
            obtain ⟨j, rfl⟩ := Int.eq_ofNat_of_zero_le s0
            have hjl : j < ts.length := by omega
            obtain ⟨bt, ot, rfl, ct0⟩ := Htc.out j hjl
            have hbt := cell_lt ct0
            replace ct0 := Hst.out.ext.cell ct0
            have hl : turnP (lookI ts) ⟨pn, (j : Int)⟩ = ⟨pn, ts[j]⟩ := by unfold turnP lookI; rw [Int.toNat_natCast, List.getD_eq_getElem?_getD, List.getElem?_eq_getElem hjl]; rfl
            rw [hl] at hsn
            generalize ts[j] = v at *
            have Hsn := Lib.hid hsn
            clear hsn hl hpr
            obtain ⟨Au, cu, eu⟩ := Hown.out.len
            have hlk : ((t.parts.map (turnP (lookI ts))).take k).length = k := by simp; omega
            rw [hlk] at eu
            subst eu
            have o7 : wr.cell? ⟨w.heap.size + 1 + 1, 7, none⟩ = some (.slice Au k cu) := heap_cell Hst.out.obox 7 _ rfl
            have lO := cell_lt o7
            have f7 := heap_frozen Hst.out.obox 7
            obtain ⟨rows, hrl, hown, hrr⟩ := Hown.out
            rw [hlk] at hown
            obtain ⟨iI, zI, hi, hz, hs, hby, hc⟩ := slice38.info
            have i0 : (0 : Int) ≤ (k : Int) := by omega
            have i1 : (k : Int) < (t.parts.length : Int) := by omega
            have i2 : (0 : Int) ≤ (j : Int) := by omega
            have i3 : (j : Int) < (ts.length : Int) := by omega
            have HS := Lib.hid (show ∀ w', Kb wc.heap.size (w.heap.size + 1 + 1) wr w' → w'.cell? ⟨w.heap.size, 7, none⟩ = some (.slice (some ⟨b, off, none⟩) t.parts.length c1) ∧ w'.cell? ⟨b, off + k * 2, none⟩ = some (.string pn) ∧ w'.cell? ⟨b, off + k * 2 + 1, none⟩ = some (.int .i64 (j : Int)) ∧ w'.cell? ⟨bt, ot + j, none⟩ = some (.int .i64 v) from
              fun w' h => by
                have := HN.out
                exact ⟨h.cell a7 (by omega) (by omega), h.cell p0 (by omega) (by omega), h.cell p1 (by omega) (by omega), h.cell ct0 (by omega) (by omega)⟩)
            have Hgr := Lib.hid hown
            have Hrl := Lib.hid hrl
            have Hrr := Lib.hid hrr
            have Hi := Lib.hid hi
            have Hz := Lib.hid hz
            have Hs := Lib.hid hs
            have Hby := Lib.hid hby
            have Hc := Lib.hid hc
            clear hown hrl hrr hi hz hs hby hc hlk Hown
            go_wp2_with fail
            have hge := Hge.out
            refine wp_region_held_drew (S := (fun w' => w'.cell? ⟨w.heap.size, 7, none⟩ = some (.slice (some ⟨b, off, none⟩) t.parts.length c1) ∧ w'.cell? ⟨b, off + k * 2, none⟩ = some (.string pn) ∧ w'.cell? ⟨b, off + k * 2 + 1, none⟩ = some (.int .i64 (j : Int)) ∧ w'.cell? ⟨bt, ot + j, none⟩ = some (.int .i64 v))) (by kernel_rfl) ?_ (fun hHeld => ?_)
            · (try dsimp only)
              (first | exact HS.out _ Kb.refl.drew | exact HS.out _ (Kb.refl.drew.alloc Hge.out _) | exact HS.out _ hK6 | exact HS.out _ (hK6.set _ _))
            refine wpAnyH_take (i := 0) (v := ?_) rfl (by kernel_rfl) (by kernel_rfl) (by kernel_rfl) (fun _ _ _ h => h) (Or.inl ⟨by rfl, ?_⟩) (by assumption) ?_
            rotate_left
            · intro w hSw
              (try dsimp only at hSw)
              go_simp
              (first | done | with_reducible rfl | exact rfl)
            (try simp only [Act.put, List.setIfInBounds_toArray, List.set_cons_zero, List.set_cons_succ])
            refine wpAnyH_take (i := 2) (v := ?_) rfl (by kernel_rfl) (by kernel_rfl) (by kernel_rfl) (fun _ _ _ h => h) (Or.inl ⟨by rfl, ?_⟩) (by assumption) ?_
            rotate_left
            · intro w hSw
              (try dsimp only at hSw)
              go_simp
              (first | done | with_reducible rfl | exact rfl)
            (try simp only [Act.put, List.setIfInBounds_toArray, List.set_cons_zero, List.set_cons_succ])
            refine wpAnyH_take (i := 3) (v := ?_) rfl (by kernel_rfl) (by kernel_rfl) (by kernel_rfl) (fun _ _ _ h => h) (Or.inl ⟨by rfl, ?_⟩) (by assumption) ?_
            rotate_left
            · intro w hSw
              (try dsimp only at hSw)
              go_simp
              (first | done | with_reducible rfl | exact rfl)
            (try simp only [Act.put, List.setIfInBounds_toArray, List.set_cons_zero, List.set_cons_succ])
            refine wpAnyH_take (i := 4) (v := ?_) rfl (by kernel_rfl) (by kernel_rfl) (by kernel_rfl) (fun _ _ _ h => h) (Or.inl ⟨by rfl, ?_⟩) (by assumption) ?_
            rotate_left
            · intro w hSw
              (try dsimp only at hSw)
              go_simp
              (first | done | with_reducible rfl | exact rfl)
            (try simp only [Act.put, List.setIfInBounds_toArray, List.set_cons_zero, List.set_cons_succ])
            refine wpAnyH_take (i := 5) (v := ?_) rfl (by kernel_rfl) (by kernel_rfl) (by kernel_rfl) (fun _ _ _ h => h) (Or.inl ⟨by rfl, ?_⟩) (by assumption) ?_
            rotate_left
            · intro w hSw
              (try dsimp only at hSw)
              go_simp
              (first | done | with_reducible rfl | exact rfl)
            (try simp only [Act.put, List.setIfInBounds_toArray, List.set_cons_zero, List.set_cons_succ])
            refine wpAnyH_take (i := 6) (v := ?_) rfl (by kernel_rfl) (by kernel_rfl) (by kernel_rfl) (fun _ _ _ h => h) (Or.inl ⟨by rfl, ?_⟩) (by assumption) ?_
            rotate_left
            · intro w hSw
              (try dsimp only at hSw)
              go_simp
              (first | done | with_reducible rfl | exact rfl)
            (try simp only [Act.put, List.setIfInBounds_toArray, List.set_cons_zero, List.set_cons_succ])
            refine wpAnyH_take (i := 7) (v := ?_) rfl (by kernel_rfl) (by kernel_rfl) (by kernel_rfl) (fun _ _ _ h => h) (Or.inl ⟨by rfl, ?_⟩) (by assumption) ?_
            rotate_left
            · intro w hSw
              (try dsimp only at hSw)
              go_simp
              (first | done | with_reducible rfl | exact rfl)
            (try simp only [Act.put, List.setIfInBounds_toArray, List.set_cons_zero, List.set_cons_succ])
            refine wpAnyH_take (i := 8) (v := ?_) rfl (by kernel_rfl) (by kernel_rfl) (by kernel_rfl) (fun _ _ _ h => h) (Or.inl ⟨by rfl, ?_⟩) (by assumption) ?_
            rotate_left
            · intro w hSw
              (try dsimp only at hSw)
              go_simp
              (first | done | with_reducible rfl | exact rfl)
            (try simp only [Act.put, List.setIfInBounds_toArray, List.set_cons_zero, List.set_cons_succ])
            refine wpAnyH_take (i := 9) (v := ?_) rfl (by kernel_rfl) (by kernel_rfl) (by kernel_rfl) (fun _ _ _ h => h) (Or.inl ⟨by rfl, ?_⟩) (by assumption) ?_
            rotate_left
            · intro w hSw
              (try dsimp only at hSw)
              go_simp
              (first | done | with_reducible rfl | exact rfl)
            (try simp only [Act.put, List.setIfInBounds_toArray, List.set_cons_zero, List.set_cons_succ])
            refine wpAnyH_take (i := 10) (v := ?_) rfl (by kernel_rfl) (by kernel_rfl) (by kernel_rfl) (fun _ _ _ h => h) (Or.inl ⟨by rfl, ?_⟩) (by assumption) ?_
            rotate_left
            · intro w hSw
              (try dsimp only at hSw)
              go_simp
              (first | done | with_reducible rfl | exact rfl)
            (try simp only [Act.put, List.setIfInBounds_toArray, List.set_cons_zero, List.set_cons_succ])
            refine wpAnyH_take (i := 11) (v := ?_) rfl (by kernel_rfl) (by kernel_rfl) (by kernel_rfl) (fun _ _ _ h => h) (Or.inl ⟨by rfl, ?_⟩) (by assumption) ?_
            rotate_left
            · intro w hSw
              (try dsimp only at hSw)
              go_simp
              (first | done | with_reducible rfl | exact rfl)
            (try simp only [Act.put, List.setIfInBounds_toArray, List.set_cons_zero, List.set_cons_succ])
            refine wpAnyH_take (i := 12) (v := ?_) rfl (by kernel_rfl) (by kernel_rfl) (by kernel_rfl) (fun _ _ _ h => h) (Or.inl ⟨by rfl, ?_⟩) (by assumption) ?_
            rotate_left
            · intro w hSw
              (try dsimp only at hSw)
              go_simp
              (first | done | with_reducible rfl | exact rfl)
            (try simp only [Act.put, List.setIfInBounds_toArray, List.set_cons_zero, List.set_cons_succ])
            refine wpAnyH_take (i := 13) (v := ?_) rfl (by kernel_rfl) (by kernel_rfl) (by kernel_rfl) (fun _ _ _ h => h) (Or.inl ⟨by rfl, ?_⟩) (by assumption) ?_
            rotate_left
            · intro w hSw
              (try dsimp only at hSw)
              go_simp
              (first | done | with_reducible rfl | exact rfl)
            (try simp only [Act.put, List.setIfInBounds_toArray, List.set_cons_zero, List.set_cons_succ])
            refine wpAnyH_take (i := 14) (v := ?_) rfl (by kernel_rfl) (by kernel_rfl) (by kernel_rfl) (fun _ _ _ h => h) (Or.inl ⟨by rfl, ?_⟩) (by assumption) ?_
            rotate_left
            · intro w hSw
              (try dsimp only at hSw)
              go_simp
              (first | done | with_reducible rfl | exact rfl)
            (try simp only [Act.put, List.setIfInBounds_toArray, List.set_cons_zero, List.set_cons_succ])
            refine wpAnyH_take (i := 15) (v := ?_) rfl (by kernel_rfl) (by kernel_rfl) (by kernel_rfl) (fun _ _ _ h => h) (Or.inl ⟨by rfl, ?_⟩) (by assumption) ?_
            rotate_left
            · intro w hSw
              (try dsimp only at hSw)
              go_simp
              (first | done | with_reducible rfl | exact rfl)
            (try simp only [Act.put, List.setIfInBounds_toArray, List.set_cons_zero, List.set_cons_succ])
            refine wpAnyH_take (i := 16) (v := ?_) rfl (by kernel_rfl) (by kernel_rfl) (by kernel_rfl) (fun _ _ _ h => h) (Or.inl ⟨by rfl, ?_⟩) (by assumption) ?_
            rotate_left
            · intro w hSw
              (try dsimp only at hSw)
              go_simp
              (first | done | with_reducible rfl | exact rfl)
            (try simp only [Act.put, List.setIfInBounds_toArray, List.set_cons_zero, List.set_cons_succ])
            refine wpAnyH_take (i := 17) (v := ?_) rfl (by kernel_rfl) (by kernel_rfl) (by kernel_rfl) (fun _ _ _ h => h) (Or.inl ⟨by rfl, ?_⟩) (by assumption) ?_
            rotate_left
            · intro w hSw
              (try dsimp only at hSw)
              go_simp
              (first | done | with_reducible rfl | exact rfl)
            (try simp only [Act.put, List.setIfInBounds_toArray, List.set_cons_zero, List.set_cons_succ])
            refine wpAnyH_ready (rs := [1, 18]) (by kernel_rfl) (by simp) ?_
            refine AllReadyH.cons rfl (fun K hK => ?_) ?_
            · go_simp
              refine hK.out _ _ ?_ (fun hHeld => ?_)
              · (try dsimp only)
                (first | exact HS.out _ Kb.refl.drew | exact HS.out _ (Kb.refl.drew.alloc Hge.out _) | exact HS.out _ hK6 | exact HS.out _ (hK6.set _ _))
              clear hK K
              (try simp only [Act.put, List.setIfInBounds_toArray, List.set_cons_zero, List.set_cons_succ])
              refine wpAnyH_ready (rs := [18]) (by kernel_rfl) (by simp) ?_
              refine AllReadyH.cons rfl (fun K hK => ?_) ?_
              · go_simp
                refine hK.out _ _ ?_ (fun hHeld => ?_)
                · (try dsimp only)
                  (first | exact HS.out _ Kb.refl.drew | exact HS.out _ (Kb.refl.drew.alloc Hge.out _) | exact HS.out _ hK6 | exact HS.out _ (hK6.set _ _))
                clear hK K
                (try simp only [Act.put, List.setIfInBounds_toArray, List.set_cons_zero, List.set_cons_succ])
                refine wpAnyH_ready (rs := [19]) (by kernel_rfl) (by simp) ?_
                refine AllReadyH.cons rfl (fun K hK => ?_) ?_
                · refine step_append_own (by rfl) _ _ 38 (by rfl) wc.heap.size 2 95 iI zI 24 Tryz.underlying38 Hi.out Hz.out Hs.out Hby.out Hc.out (by decide) _ _ rows.flatten (by rfl) (ownsRow_ext Hgr.out ((Ext.refl wr).drew.alloc _)) (by have := Hge.out; simp; omega) ⟨wr.heap.size, 0, none⟩ 1 [.string pn, .int .i64 v] (by rfl) (by rfl) (World.news_of_block (cs := #[.string pn, .int .i64 v]) (t := 95) (fr := (0, 0)) (heap_alloc_new wr.drew _)) (by simp [Value.oneCell']) (by simp only [maxLen]; omega) (by omega) ?_
                  intro v5 w6 hq6 hg6 hat6
                  obtain ⟨g9, c9, rfl⟩ := ownsRow_succ hq6
                  have hK6 : Kb wc.heap.size (w.heap.size + 1 + 1) wr w6 := (Kb.refl.drew.alloc Hge.out _).grown hg6 (by have := Hge.out; simp; omega) (fun b hb => (Hgr.out.lt b hb).1)
                  have hst6 := Lib.hid ((Hst.out.later ((Ext.refl wr).drew.alloc (.cells #[.string pn, .int .i64 v] 95))).grown hg6 (fun b hb => by have h1 := (Hgr.out.lt b hb).1; have h2 := HN.out; omega))
                  have o76 := heap_cell hst6.out.obox 7 _ rfl
                  have f76 := heap_frozen hst6.out.obox 7
                  have l76 := cell_lt o76
                  refine hK.out _ _ ?_ (fun hHeld => ?_)
                  · (try dsimp only)
                    (first | exact HS.out _ Kb.refl.drew | exact HS.out _ (Kb.refl.drew.alloc Hge.out _) | exact HS.out _ hK6 | exact HS.out _ (hK6.set _ _))
                  clear hK K
                  (try simp only [Act.put, List.setIfInBounds_toArray, List.set_cons_zero, List.set_cons_succ])
                  refine wpAnyH_take (i := 20) (v := ?_) rfl (by kernel_rfl) (by kernel_rfl) (by kernel_rfl) (fun _ _ _ h => h) (Or.inl ⟨by rfl, ?_⟩) (by assumption) ?_
                  rotate_left
                  · intro w hSw
                    (try dsimp only at hSw)
                    go_simp
                    (first | done | with_reducible rfl | exact rfl)
                  (try simp only [Act.put, List.setIfInBounds_toArray, List.set_cons_zero, List.set_cons_succ])
                  refine wpAnyH_ready (rs := [21]) (by kernel_rfl) (by simp) ?_
                  refine AllReadyH.cons rfl (fun K hK => ?_) ?_
                  · go_simp
                    refine hK.out _ _ ?_ (fun hHeld => ?_)
                    · (try dsimp only)
                      (first | exact HS.out _ Kb.refl.drew | exact HS.out _ (Kb.refl.drew.alloc Hge.out _) | exact HS.out _ hK6 | exact HS.out _ (hK6.set _ _))
                    clear hK K
                    (try simp only [Act.put, List.setIfInBounds_toArray, List.set_cons_zero, List.set_cons_succ])
                    refine wpAnyH_done (by kernel_rfl) ?_ _
                    as_aux_lemma =>
                      have hx6 := (Ext.refl wr).drew.alloc (.cells #[.string pn, .int .i64 v] 95)
                      have hown6 := Own.pushed (E := partE) (F := fun b => wc.heap.size ≤ b) (y := (⟨pn, v⟩ : Part)) (e := 95) Hrl.out (fun i x r h1 h2 => Elt.ext (Hrr.out i x r h1 h2) hx6) (show partE.rel _ _ (⟨pn, v⟩ : Part) [.string pn, .int .i64 v] from rfl) (by rw [show ((t.parts.map (turnP (lookI ts))).take k).length = k by simp; omega]; exact hq6) hg6 hat6
                      rw [← Hsn.out] at hown6
                      have hne := hown6.ne (b := w.heap.size + 1 + 1) (by have := HN.out; omega)
                      have Hown7 := Lib.hid (hown6.keptFlat flat_part (grown_set w6 (w.heap.size + 1 + 1) 7 (.slice (some ⟨g9, 0, none⟩) (k + 1) c9)) hne)
                      have Hst7 := Lib.hid (hst6.out.set7 (.slice (some ⟨g9, 0, none⟩) (k + 1) c9))
                      have Hov7 := Lib.hid ((hK6.set (o := w.heap.size + 1 + 1) 7 (.slice (some ⟨g9, 0, none⟩) (k + 1) c9)).slF Hov.out (fun b hb => ⟨hb.2, by have := hb.1; omega⟩))
                      have hge7 : wc.heap.size ≤ (w6.setCell ⟨w.heap.size + 1 + 1, 7, none⟩ (.slice (some ⟨g9, 0, none⟩) (k + 1) c9)).heap.size := by
                        have h1 := hg6.size
                        have h2 := Hge.out
                        simp at h1 ⊢
                        omega
                      have Hge7 := Lib.hid hge7
                      clear hown6 hne hge7 o76 f76 l76 hst6 hK6 hq6 hg6 hat6 hx6
                      go_wp2_with fail
                      go_roundw
                      case rel => exact ⟨k + 1, _, by omega, by go_num, Hst7, Hown7, Hov7, Hge7⟩
                      case measure => simp [intOf]; omega
                  exact AllReadyH.nil
                exact AllReadyH.nil
              exact AllReadyH.nil
            refine AllReadyH.cons rfl (fun K hK => ?_) ?_
            · go_simp
              refine hK.out _ _ ?_ (fun hHeld => ?_)
              · (try dsimp only)
                (first | exact HS.out _ Kb.refl.drew | exact HS.out _ (Kb.refl.drew.alloc Hge.out _) | exact HS.out _ hK6 | exact HS.out _ (hK6.set _ _))
              clear hK K
              (try simp only [Act.put, List.setIfInBounds_toArray, List.set_cons_zero, List.set_cons_succ])
              refine wpAnyH_ready (rs := [1]) (by kernel_rfl) (by simp) ?_
              refine AllReadyH.cons rfl (fun K hK => ?_) ?_
              · go_simp
                refine hK.out _ _ ?_ (fun hHeld => ?_)
                · (try dsimp only)
                  (first | exact HS.out _ Kb.refl.drew | exact HS.out _ (Kb.refl.drew.alloc Hge.out _) | exact HS.out _ hK6 | exact HS.out _ (hK6.set _ _))
                clear hK K
                (try simp only [Act.put, List.setIfInBounds_toArray, List.set_cons_zero, List.set_cons_succ])
                refine wpAnyH_ready (rs := [19]) (by kernel_rfl) (by simp) ?_
                refine AllReadyH.cons rfl (fun K hK => ?_) ?_
                · refine step_append_own (by rfl) _ _ 38 (by rfl) wc.heap.size 2 95 iI zI 24 Tryz.underlying38 Hi.out Hz.out Hs.out Hby.out Hc.out (by decide) _ _ rows.flatten (by rfl) (ownsRow_ext Hgr.out ((Ext.refl wr).drew.alloc _)) (by have := Hge.out; simp; omega) ⟨wr.heap.size, 0, none⟩ 1 [.string pn, .int .i64 v] (by rfl) (by rfl) (World.news_of_block (cs := #[.string pn, .int .i64 v]) (t := 95) (fr := (0, 0)) (heap_alloc_new wr.drew _)) (by simp [Value.oneCell']) (by simp only [maxLen]; omega) (by omega) ?_
                  intro v5 w6 hq6 hg6 hat6
                  obtain ⟨g9, c9, rfl⟩ := ownsRow_succ hq6
                  have hK6 : Kb wc.heap.size (w.heap.size + 1 + 1) wr w6 := (Kb.refl.drew.alloc Hge.out _).grown hg6 (by have := Hge.out; simp; omega) (fun b hb => (Hgr.out.lt b hb).1)
                  have hst6 := Lib.hid ((Hst.out.later ((Ext.refl wr).drew.alloc (.cells #[.string pn, .int .i64 v] 95))).grown hg6 (fun b hb => by have h1 := (Hgr.out.lt b hb).1; have h2 := HN.out; omega))
                  have o76 := heap_cell hst6.out.obox 7 _ rfl
                  have f76 := heap_frozen hst6.out.obox 7
                  have l76 := cell_lt o76
                  refine hK.out _ _ ?_ (fun hHeld => ?_)
                  · (try dsimp only)
                    (first | exact HS.out _ Kb.refl.drew | exact HS.out _ (Kb.refl.drew.alloc Hge.out _) | exact HS.out _ hK6 | exact HS.out _ (hK6.set _ _))
                  clear hK K
                  (try simp only [Act.put, List.setIfInBounds_toArray, List.set_cons_zero, List.set_cons_succ])
                  refine wpAnyH_take (i := 20) (v := ?_) rfl (by kernel_rfl) (by kernel_rfl) (by kernel_rfl) (fun _ _ _ h => h) (Or.inl ⟨by rfl, ?_⟩) (by assumption) ?_
                  rotate_left
                  · intro w hSw
                    (try dsimp only at hSw)
                    go_simp
                    (first | done | with_reducible rfl | exact rfl)
                  (try simp only [Act.put, List.setIfInBounds_toArray, List.set_cons_zero, List.set_cons_succ])
                  refine wpAnyH_ready (rs := [21]) (by kernel_rfl) (by simp) ?_
                  refine AllReadyH.cons rfl (fun K hK => ?_) ?_
                  · go_simp
                    refine hK.out _ _ ?_ (fun hHeld => ?_)
                    · (try dsimp only)
                      (first | exact HS.out _ Kb.refl.drew | exact HS.out _ (Kb.refl.drew.alloc Hge.out _) | exact HS.out _ hK6 | exact HS.out _ (hK6.set _ _))
                    clear hK K
                    (try simp only [Act.put, List.setIfInBounds_toArray, List.set_cons_zero, List.set_cons_succ])
                    refine wpAnyH_done (by kernel_rfl) ?_ _
                    as_aux_lemma =>
                      have hx6 := (Ext.refl wr).drew.alloc (.cells #[.string pn, .int .i64 v] 95)
                      have hown6 := Own.pushed (E := partE) (F := fun b => wc.heap.size ≤ b) (y := (⟨pn, v⟩ : Part)) (e := 95) Hrl.out (fun i x r h1 h2 => Elt.ext (Hrr.out i x r h1 h2) hx6) (show partE.rel _ _ (⟨pn, v⟩ : Part) [.string pn, .int .i64 v] from rfl) (by rw [show ((t.parts.map (turnP (lookI ts))).take k).length = k by simp; omega]; exact hq6) hg6 hat6
                      rw [← Hsn.out] at hown6
                      have hne := hown6.ne (b := w.heap.size + 1 + 1) (by have := HN.out; omega)
                      have Hown7 := Lib.hid (hown6.keptFlat flat_part (grown_set w6 (w.heap.size + 1 + 1) 7 (.slice (some ⟨g9, 0, none⟩) (k + 1) c9)) hne)
                      have Hst7 := Lib.hid (hst6.out.set7 (.slice (some ⟨g9, 0, none⟩) (k + 1) c9))
                      have Hov7 := Lib.hid ((hK6.set (o := w.heap.size + 1 + 1) 7 (.slice (some ⟨g9, 0, none⟩) (k + 1) c9)).slF Hov.out (fun b hb => ⟨hb.2, by have := hb.1; omega⟩))
                      have hge7 : wc.heap.size ≤ (w6.setCell ⟨w.heap.size + 1 + 1, 7, none⟩ (.slice (some ⟨g9, 0, none⟩) (k + 1) c9)).heap.size := by
                        have h1 := hg6.size
                        have h2 := Hge.out
                        simp at h1 ⊢
                        omega
                      have Hge7 := Lib.hid hge7
                      clear hown6 hne hge7 o76 f76 l76 hst6 hK6 hq6 hg6 hat6 hx6
                      go_wp2_with fail
                      go_roundw
                      case rel => exact ⟨k + 1, _, by omega, by go_num, Hst7, Hown7, Hov7, Hge7⟩
                      case measure => simp [intOf]; omega
                  exact AllReadyH.nil
                exact AllReadyH.nil
              exact AllReadyH.nil
            exact AllReadyH.nil
          · have hkn : k = t.parts.length := by omega
            subst hkn
            rw [List.take_of_length_le (by simp)] at Hown
            have Hpa : Hid (SlF (Btw (w.heap.size + 3) wr.heap.size) partE wr up (t.parts.map (turnP (lookI ts)))) := Lib.hid ((Hown.out.sl (fun b hb => hb)).mono (fun _ _ _ => rfl) (fun b hb hlt => ⟨by have := HN.out; omega, hlt⟩))
            have Hov2 : Hid (SlF (Btw (w.heap.size + 3) wr.heap.size) overE wr uo t.overs) := Lib.hid (Hov.out.mono (fun _ _ _ => rfl) (fun b hb hlt => ⟨hb.1, hlt⟩))
            have i1 : ¬ (t.parts.length : Int) < (t.parts.length : Int) := by omega
            clear Hown Hov hlt hk
            go_wp2_with fail
            obtain ⟨wd, rfl⟩ : ∃ wd : World, wd = wr := ⟨_, rfl⟩
            clear a7 lA
            go_loopw [7] (fun u wr => ∃ (k : Nat) (um : Value), k ≤ t.methods.length ∧ u = .int .i64 k ∧ Hid (TuA w t (.slice A1 t.parts.length c1) (.slice A2 t.methods.length c2) (.slice A3 t.overs.length c3) sp up um uo wr) ∧ Hid (Own (fun b => wd.heap.size ≤ b) methodE wr wd.heap.size 74 um ((t.methods.map (turnM (lookI ts))).take k)) ∧ Hid (SlF (Btw (w.heap.size + 3) wd.heap.size) overE wr uo t.overs) ∧ Hid (SlF (Btw (w.heap.size + 3) wd.heap.size) partE wr up (t.parts.map (turnP (lookI ts)))) ∧ Hid (wd.heap.size ≤ wr.heap.size)) (fun u _ => t.methods.length - (intOf u).toNat)
            case atStart => exact ⟨0, _, by omega, rfl, Hst, Lib.hid (Own.nil _ _ _ _ _), Hov2, Hpa, Lib.hid (Nat.le_refl _)⟩
            case round =>
              replace HN := Lib.hid Hst.out.lt
              clear Hst Hpa Hov2 Hge i1
              obtain ⟨k, um, hk, rfl, Hst, Hown, Hov, Hpa, Hge⟩ := hrel
              have a8 : wr.cell? ⟨w.heap.size, 8, none⟩ = some (.slice A2 t.methods.length c2) := heap_cell Hst.out.abox 8 _ rfl
              have lA := cell_lt a8
              by_cases hlt : k < t.methods.length
              · obtain ⟨b, off, va, vr, rfl, hva, hvr, m0, m1, m2, m3, m4⟩ := Hm.out k hlt
                replace m0 := Hst.out.ext.cell m0
                replace m1 := Hst.out.ext.cell m1
                replace m2 := Hst.out.ext.cell m2
                replace m3 := Hst.out.ext.cell m3
                replace m4 := Hst.out.ext.cell m4
                have lm := cell_lt m0
                have hml6 := Hargs.out _ (List.getElem_mem hlt)
                have hmr6 := Hrai.out _ (List.getElem_mem hlt)
                have hmr : ∀ r ∈ refsM t.methods[k], 0 ≤ r ∧ r < ts.length := fun r hr => Hr.out r (by unfold refsL; simp only [List.mem_append, List.mem_flatMap]; exact .inr (.inr ⟨_, List.getElem_mem hlt, hr⟩))
                have hsn := take_map_snoc (turnM (lookI ts)) t.methods k hlt
                have i0 : (0 : Int) ≤ (k : Int) := by omega
                have i1 : (k : Int) < (t.methods.length : Int) := by omega
                generalize t.methods[k] = m at *
                obtain ⟨Aa, ca, ea⟩ := hva.len
                obtain ⟨Ar, cr, er⟩ := hvr.len
                subst ea er
                have Hva := Lib.hid hva
                have Hvr := Lib.hid hvr
                have Hmr := Lib.hid hmr
                have Hsn := Lib.hid hsn
                clear hva hvr hmr hsn
                go_wp2_with fail
                clear a8 m0 m1 m2 m3 m4 lm
                have Hb := Lib.hid (heap_alloc_self wr (.cells #[.string m.name, .slice Aa m.args.length ca, .int .i64 m.result, .slice Ar m.raises.length cr, .string m.proc] 74))
                have Hx := Lib.hid ((Ext.refl wr).alloc (.cells #[.string m.name, .slice Aa m.args.length ca, .int .i64 m.result, .slice Ar m.raises.length cr, .string m.proc] 74))
                have hsz : (wr.alloc (.cells #[.string m.name, .slice Aa m.args.length ca, .int .i64 m.result, .slice Ar m.raises.length cr, .string m.proc] 74)).heap.size = wr.heap.size + 1 := by simp
                have Hsz := Lib.hid hsz
                clear hsz
                generalize wr.alloc (.cells #[.string m.name, .slice Aa m.args.length ca, .int .i64 m.result, .slice Ar m.raises.length cr, .string m.proc] 74) = wA at Hb Hx Hsz ⊢
                obtain ⟨wo, rfl⟩ : ∃ wo : World, wo = wr := ⟨_, rfl⟩
                go_loopw [9, 10] (fun o u wq => ∃ i : Nat, i ≤ m.args.length ∧ u = .int .i64 i ∧ Hid (Ext wA wq) ∧ Hid (Own (fun b => wo.heap.size < b) intE wq (wo.heap.size + 1) 3 o ((m.args.map (lookI ts)).take i))) (fun _ u _ => m.args.length - (intOf u).toNat)
                case atStart => exact ⟨0, by omega, rfl, Lib.hid (Ext.refl _), Lib.hid (Own.nil _ _ _ _ _)⟩
                case round =>
                  obtain ⟨i, hi, rfl, Hq, Hoa⟩ := hrel
                  have c1' := heap_cell (Hq.out.heap Hb.out) 1 _ rfl
                  have lb := cell_lt c1'
                  by_cases hit : i < m.args.length
                  · obtain ⟨Ap, cp, ep, has⟩ := Hva.out.int
                    simp only [Value.slice.injEq] at ep
                    obtain ⟨rfl, _, rfl⟩ := ep
                    obtain ⟨ab, ao, rfl, p0⟩ := has i hit
                    replace p0 := (Hst.out.ext.trans (Hx.out.trans Hq.out)).cell p0
                    have lp := cell_lt p0
                    have har : m.args[i] ∈ refsM m := by unfold refsM; exact List.mem_append_left _ (List.getElem_mem hit)
                    obtain ⟨s0, s1⟩ := Hmr.out _ har
                    have hsa := take_map_snoc (lookI ts) m.args i hit
                    clear has har
                    generalize m.args[i] = x at *
                    obtain ⟨j, rfl⟩ := Int.eq_ofNat_of_zero_le s0
                    have hjl : j < ts.length := by omega
                    obtain ⟨bt, ot, rfl, ct0⟩ := Htc.out j hjl
                    replace ct0 := (Hst.out.ext.trans (Hx.out.trans Hq.out)).cell ct0
                    have lt0 := cell_lt ct0
                    have hl : lookI ts (j : Int) = ts[j] := by unfold lookI; rw [Int.toNat_natCast, List.getD_eq_getElem?_getD, List.getElem?_eq_getElem hjl]; rfl
                    rw [hl] at hsa
                    generalize ts[j] = v at *
                    have Hsa := Lib.hid hsa
                    have k0 : (0 : Int) ≤ (i : Int) := by omega
                    have k1 : (i : Int) < (m.args.length : Int) := by omega
                    have k2 : (0 : Int) ≤ (j : Int) := by omega
                    have k3 : (j : Int) < (ts.length : Int) := by omega
                    have hqs : wo.heap.size + 1 ≤ wr.heap.size := by have h1 := Hq.out.size; have h2 := Hsz.out; omega
                    have Hqs := Lib.hid hqs
                    clear hsa hl s0 s1 hqs
                    go_wp2_with (at_builtin; refine own_append (F := fun b => wo.heap.size < b) intE (wo.heap.size + 1) rfl (.tmp 81) (.tmp 91) 24 3 8 rfl slice24 _ _ v [.int .i64 v] rfl rfl Hoa.out rfl ?c1 ?c2 ?c3 ?_)
                    case c1 => exact Hqs.out
                    case c2 => simp; omega
                    case c3 => decide
                    intro v2 w2 hown2 hg2
                    have hx2 : Ext wA w2 := Below.grown Hq.out hg2 Hq.out.size (fun k hk => by have h1 := (Hoa.out.lt k hk).1; have h2 := Hsz.out; omega)
                    rw [← Hsa.out] at hown2
                    have Hown2 := Lib.hid hown2
                    have Hx2 := Lib.hid hx2
                    clear hown2 hg2 hx2 Hoa Hq
                    go_wp2_with fail
                    go_roundw
                    case rel => exact ⟨i + 1, by omega, by go_num, Hx2, Hown2⟩
                    case measure => simp [intOf]; omega
                  · have hin : i = m.args.length := by omega
                    subst hin
                    rw [List.take_of_length_le (by simp)] at Hoa
                    have k1 : ¬ (m.args.length : Int) < (m.args.length : Int) := by omega
                    clear hit hi
                    obtain ⟨Ag, cg, eg⟩ := Hoa.out.len
                    rw [List.length_map] at eg
                    subst eg
                    have c0 := heap_cell (Hq.out.heap Hb.out) 0 _ rfl
                    have c2 := heap_cell (Hq.out.heap Hb.out) 2 _ rfl
                    have f1 := heap_frozen (Hq.out.heap Hb.out) 1
                    go_upto_region 21 with fail
                    have hb3 := heap_set (Hq.out.heap Hb.out) 1 (.slice Ag m.args.length cg)
                    simp only [List.setIfInBounds_toArray, List.set_cons_zero, List.set_cons_succ] at hb3
                    have hx3 := (Hx.out.trans Hq.out).setCell (p := ⟨wo.heap.size, 1, none⟩) (Nat.le_refl _) (.slice Ag m.args.length cg)
                    have hva3 := (Hoa.out.sl (fun b hb => hb)).mono (w' := wr.setCell ⟨wo.heap.size, 1, none⟩ (.slice Ag m.args.length cg)) (G := fun b => wo.heap.size < b) (fun b hb _ => Below.heap_setCell _ _ _ _ (by simp; omega)) (fun _ h _ => h)
                    have Hb3 := Lib.hid hb3
                    have Hx3 := Lib.hid hx3
                    have Hva3 := Lib.hid hva3
                    clear c0 c2 f1 c1' lb hb3 hx3 hva3 Hoa Hva
                    generalize wr.setCell ⟨wo.heap.size, 1, none⟩ (.slice Ag m.args.length cg) = w3 at Hb3 Hx3 Hva3 ⊢
                    have c3 := heap_cell Hb3.out 3 _ rfl
                    have f3 := heap_frozen Hb3.out 3
                    have lb := cell_lt c3
                    go_cut [10] (fun s wx => ∃ v4, Hid (wx.heap[wo.heap.size]? = some (.cells #[.string m.name, .slice Ag m.args.length cg, .int .i64 m.result, v4, .string m.proc] 74 (0, 0))) ∧ Hid (Ext wo wx) ∧ Hid (SlF (fun b => wo.heap.size < b) intE wx (.slice Ag m.args.length cg) (m.args.map (lookI ts))) ∧ Hid (SlF (fun b => wo.heap.size < b) strE wx v4 m.raises))
                    case first =>
                      go_wp2_with (at_builtin; refine own_append_any (F := fun b => wo.heap.size < b) strE flat_str (wo.heap.size + 1) rfl _ _ 70 9 16 rfl slice70 _ _ [] m.raises rfl rfl (Own.made _ _ _ _ _ ?e1) (Hvr.out.mono (Hst.out.ext.trans (Hx3.out.alloc _))) ?e2 ?e3 ?e4 ?_)
                      case e1 => omega
                      case e2 => omega
                      case e3 => omega
                      intro v4 w4 hown4 hg4
                      have hx34 : Ext w3 w4 := Below.grown ((Ext.refl _).alloc _) hg4 (by simp) (fun b hb => by simp [Value.ownBlock] at hb; omega)
                      have hs4 := hown4.sl (fun b hb => hb)
                      obtain ⟨A4, c4, e4⟩ := hown4.len
                      (try rw [List.nil_append] at e4)
                      (try rw [List.nil_append] at hs4)
                      subst e4
                      have hb4 := hx34.heap Hb3.out
                      have d3 := heap_cell hb4 3 _ rfl
                      have g3 := heap_frozen hb4 3
                      have ld := cell_lt d3
                      have Hx34 := Lib.hid hx34
                      have Hs4 := Lib.hid hs4
                      have Hb4 := Lib.hid hb4
                      clear hx34 hs4 hb4 hown4 hg4 c3 f3 lb
                      go_wp2_with fail
                      go_meet
                      have hb5 := heap_set Hb4.out 3 (.slice A4 m.raises.length c4)
                      simp only [List.setIfInBounds_toArray, List.set_cons_zero, List.set_cons_succ] at hb5
                      exact ⟨_, Lib.hid hb5, Lib.hid ((Hx3.out.trans Hx34.out).setCell (Nat.le_refl _) _),
                        Lib.hid ((Hva3.out.ext Hx34.out).mono (G := fun b => wo.heap.size < b) (fun b hb _ => Below.heap_setCell _ _ _ _ (by simp; omega)) (fun _ h _ => h)),
                        Lib.hid (Hs4.out.mono (G := fun b => wo.heap.size < b) (fun b hb _ => Below.heap_setCell _ _ _ _ (by simp; omega)) (fun _ h _ => h))⟩
                    case rest =>
                      clear c3 f3 lb Hb3 Hx3 Hva3 Hvr
                      obtain ⟨v4, Hb3, Hx3, Hva3, Hvr3⟩ := hcut
                      have c2 := heap_cell Hb3.out 2 _ rfl
                      have lb := cell_lt c2
                      go_upto_if 106 with fail
                      go_cut [10] (fun s wx => Hid (wx.heap[wo.heap.size]? = some (.cells #[.string m.name, .slice Ag m.args.length cg, .int .i64 (turnM (lookI ts) m).result, v4, .string m.proc] 74 (0, 0))) ∧ Hid (Ext wo wx) ∧ Hid (SlF (fun b => wo.heap.size < b) intE wx (.slice Ag m.args.length cg) (m.args.map (lookI ts))) ∧ Hid (SlF (fun b => wo.heap.size < b) strE wx v4 m.raises))
                      case first =>
                        have hif : (turnM (lookI ts) m).result = if 0 ≤ m.result then lookI ts m.result else m.result := rfl
                        by_cases hres : 0 ≤ m.result
                        · rw [if_pos hres] at hif
                          obtain ⟨s0, s1⟩ := Hmr.out m.result (by unfold refsM; rw [if_pos hres]; simp)
                          obtain ⟨j, hj⟩ := Int.eq_ofNat_of_zero_le s0
                          have hjl : j < ts.length := by omega
                          obtain ⟨bt, ot, rfl, ct0⟩ := Htc.out j hjl
                          replace ct0 := (Hst.out.ext.trans Hx3.out).cell ct0
                          have lt0 := cell_lt ct0
                          have hl : lookI ts m.result = ts[j] := by unfold lookI; rw [hj, Int.toNat_natCast, List.getD_eq_getElem?_getD, List.getElem?_eq_getElem hjl]; rfl
                          rw [hl] at hif
                          generalize ts[j] = v at *
                          have Hif := Lib.hid hif
                          replace c2 : wc.cell? ⟨wo.heap.size, 2, none⟩ = some (.int .i64 (j : Int)) := by rw [← hj]; exact c2
                          have f2 := heap_frozen Hb3.out 2
                          have k0 : (0 : Int) ≤ (j : Int) := by omega
                          have k1 : (j : Int) < (ts.length : Int) := by omega
                          clear hif hl s0 s1 hj
                          go_wp2_with fail
                          go_meet
                          rw [Hif.out]
                          have hb5 := heap_set Hb3.out 2 (.int .i64 v)
                          simp only [List.setIfInBounds_toArray, List.set_cons_zero, List.set_cons_succ] at hb5
                          exact ⟨Lib.hid hb5, Lib.hid (Hx3.out.setCell (Nat.le_refl _) _),
                            Lib.hid (Hva3.out.mono (G := fun b => wo.heap.size < b) (fun b hb _ => Below.heap_setCell _ _ _ _ (by simp; omega)) (fun _ h _ => h)),
                            Lib.hid (Hvr3.out.mono (G := fun b => wo.heap.size < b) (fun b hb _ => Below.heap_setCell _ _ _ _ (by simp; omega)) (fun _ h _ => h))⟩
                        · rw [if_neg hres] at hif
                          have Hif := Lib.hid hif
                          clear hif
                          go_wp2_with fail
                          go_meet
                          rw [Hif.out]
                          exact ⟨Hb3, Hx3, Hva3, Hvr3⟩
                      case rest =>
                        clear Hb3 Hx3 Hva3 Hvr3 c2 lb
                        obtain ⟨Hb3, Hx3, Hva3, Hvr3⟩ := hcut
                        have d0 := heap_cell Hb3.out 0 _ rfl
                        have d1 := heap_cell Hb3.out 1 _ rfl
                        have d2 := heap_cell Hb3.out 2 _ rfl
                        have d3 := heap_cell Hb3.out 3 _ rfl
                        have d4 := heap_cell Hb3.out 4 _ rfl
                        have ld := cell_lt d0
                        have Hst3 := Lib.hid (Hst.out.later Hx3.out)
                        have o8 : wc.cell? ⟨w.heap.size + 1 + 1, 8, none⟩ = some um := heap_cell Hst3.out.obox 8 _ rfl
                        have lO := cell_lt o8
                        obtain ⟨Av, cv, ev⟩ := Hvr3.out.any.len
                        subst ev
                        obtain ⟨Au, cu, eu⟩ := Hown.out.len
                        have hlk : ((t.methods.map (turnM (lookI ts))).take k).length = k := by simp; omega
                        rw [hlk] at eu
                        subst eu
                        have HS := Lib.hid (show methodE.rel (fun b => wd.heap.size ≤ b ∧ some b ≠ (Value.slice Au k cu).ownBlock) wc (turnM (lookI ts) m) [.string m.name, .slice Ag m.args.length cg, .int .i64 (turnM (lookI ts) m).result, .slice Av m.raises.length cv, .string m.proc] from by
                          have hlt2 := Hown.out.lt
                          have hge := Hge.out
                          have hf : ∀ b, wo.heap.size < b → wd.heap.size ≤ b ∧ some b ≠ (Value.slice Au k cu).ownBlock := fun b hb => ⟨by omega, fun e => by have := (hlt2 b e.symm).2; omega⟩
                          exact ⟨_, _, rfl, by simpa [turnM] using Hva3.out.mono (fun _ _ _ => rfl) (fun b hb _ => hf b hb), Hvr3.out.mono (fun _ _ _ => rfl) (fun b hb _ => hf b hb)⟩)
                        clear Hva3 Hvr3
                        have Hown3 := Lib.hid (Hown.out.kept Hx3.out)
                        have hgz : wd.heap.size ≤ wc.heap.size := by have h1 := Hge.out; have h2 := Hx3.out.size; omega
                        have Hgz := Lib.hid hgz
                        clear hgz
                        go_wp2_with (at_builtin; go_must (refine own_append (F := fun b => wd.heap.size ≤ b) methodE wd.heap.size rfl (.tmp 116) (.tmp 118) 39 74 88 rfl slice39 _ _ (turnM (lookI ts) m) _ rfl rfl Hown3.out HS.out ?g1 ?g2 ?g3 ?_))
                        case g1 => exact Hgz.out
                        case g2 =>
                          (try simp only [List.length_take, List.length_map])
                          omega
                        intro v9 w9 hown9 hg9
                        rw [← Hsn.out] at hown9
                        have Kx := Hx3.out
                        have hrow : ∀ b, (Value.slice Au k cu).ownBlock = some b → wd.heap.size ≤ b := fun b hb => (Hown.out.lt b hb).1
                        have hst9 := (Hst.out.later Kx).grown hg9 (fun b hb => by have h1 := hrow b hb; have h2 := HN.out; omega)
                        have hK9 : Kb wd.heap.size (w.heap.size + 1 + 1) wo w9 := (Kb.refl.ext Kx Hge.out).grown hg9 (by have h1 := Kx.size; have h2 := Hge.out; omega) hrow
                        obtain ⟨A9, c9, e9⟩ := hown9.len
                        have hlk9 : ((t.methods.map (turnM (lookI ts))).take (k + 1)).length = k + 1 := by simp; omega
                        rw [hlk9] at e9
                        subst e9
                        have o9 := heap_cell hst9.obox 8 _ rfl
                        have l9 := cell_lt o9
                        have f9 := heap_frozen hst9.obox 8
                        have hne := hown9.ne (b := w.heap.size + 1 + 1) (by have := HN.out; omega)
                        have Hown7 := Lib.hid (hown9.keptG (G := fun b => wd.heap.size ≤ b) (grown_set w9 (w.heap.size + 1 + 1) 8 (.slice A9 (k + 1) c9)) hne (fun b hb => by have h1 := HN.out; intro e; injection e with e; omega) (fun b hb _ => hb))
                        have Hst7 := Lib.hid (hst9.set8 (.slice A9 (k + 1) c9))
                        have Hov7 := Lib.hid ((hK9.set (o := w.heap.size + 1 + 1) 8 (.slice A9 (k + 1) c9)).slF Hov.out (fun b hb => ⟨hb.2, by have := hb.1; omega⟩))
                        have Hpa7 := Lib.hid ((hK9.set (o := w.heap.size + 1 + 1) 8 (.slice A9 (k + 1) c9)).slF Hpa.out (fun b hb => ⟨hb.2, by have := hb.1; omega⟩))
                        have hge7 : wd.heap.size ≤ (w9.setCell ⟨w.heap.size + 1 + 1, 8, none⟩ (.slice A9 (k + 1) c9)).heap.size := by
                          have h1 := hg9.size
                          have h2 := Hge.out
                          have h3 := Kx.size
                          simp only [World.size_setCell]
                          omega
                        have Hge7 := Lib.hid hge7
                        clear hown9 hne hge7 hst9 hK9 hg9 hrow Kx d0 d1 d2 d3 d4 ld o8 lO Hst3 HS Hown3 Hgz hlk hlk9
                        go_wp2_with fail
                        go_roundw
                        case rel => exact ⟨k + 1, _, by omega, by go_num, Hst7, Hown7, Hov7, Hpa7, Hge7⟩
                        case measure => simp [intOf]; omega
              · have hkn : k = t.methods.length := by omega
                subst hkn
                rw [List.take_of_length_le (by simp)] at Hown
                have i1 : ¬ (t.methods.length : Int) < (t.methods.length : Int) := by omega
                have b2 := Hst.out.obox
                have q0 := heap_cell b2 0 _ rfl
                have q1 := heap_cell b2 1 _ rfl
                have q2 := heap_cell b2 2 _ rfl
                have q3 := heap_cell b2 3 _ rfl
                have q4 := heap_cell b2 4 _ rfl
                have q5 := heap_cell b2 5 _ rfl
                have q6 := heap_cell b2 6 _ rfl
                have q7 := heap_cell b2 7 _ rfl
                have q8 := heap_cell b2 8 _ rfl
                have q9 := heap_cell b2 9 _ rfl
                have y := Hst.out.rbox
                have y0 := heap_cell y 0 _ rfl
                have y1 := heap_cell y 1 _ rfl
                have y2 := heap_cell y 2 _ rfl
                have y3 := heap_cell y 3 _ rfl
                have y4 := heap_cell y 4 _ rfl
                have y5 := heap_cell y 5 _ rfl
                have y6 := heap_cell y 6 _ rfl
                have y7 := heap_cell y 7 _ rfl
                have y8 := heap_cell y 8 _ rfl
                have y9 := heap_cell y 9 _ rfl
                have f0 := heap_frozen y 0
                have f1 := heap_frozen y 1
                have f2 := heap_frozen y 2
                have f3 := heap_frozen y 3
                have f4 := heap_frozen y 4
                have f5 := heap_frozen y 5
                have f6 := heap_frozen y 6
                have f7 := heap_frozen y 7
                have f8 := heap_frozen y 8
                have f9 := heap_frozen y 9
                have ly := Hst.out.rbox.lt
                have lq := Hst.out.obox.lt
                obtain ⟨Ap, cp, ep⟩ := Hpa.out.any.len
                obtain ⟨Am, cm, em⟩ := Hown.out.len
                obtain ⟨Ao, co, eo⟩ := Hov.out.any.len
                rw [List.length_map] at ep em
                subst ep em eo
                have Hms := Lib.hid (Hown.out.sl (fun b hb => hb))
                clear b2 y Hown hlt hk
                go_wp2_with fail
                have hk : ∀ b, b ≠ w.heap.size + 1 → ((((((((((wr.setCell ⟨w.heap.size + 1, 0, none⟩ (.int .u8 t.kind)).setCell ⟨w.heap.size + 1, 1, none⟩ (.int .i64 t.low)).setCell ⟨w.heap.size + 1, 2, none⟩ (.int .i64 t.high)).setCell ⟨w.heap.size + 1, 3, none⟩ (.bool t.branded)).setCell ⟨w.heap.size + 1, 4, none⟩ (.string t.brand)).setCell ⟨w.heap.size + 1, 5, none⟩ (.string t.opaq)).setCell ⟨w.heap.size + 1, 6, none⟩ (.int .i64 sp)).setCell ⟨w.heap.size + 1, 7, none⟩ (.slice Ap t.parts.length cp)).setCell ⟨w.heap.size + 1, 8, none⟩ (.slice Am t.methods.length cm)).setCell ⟨w.heap.size + 1, 9, none⟩ (.slice Ao t.overs.length co)).heap[b]? = wr.heap[b]? := fun b hb =>
                  (Below.heap_setCell _ _ _ _ hb).trans ((Below.heap_setCell _ _ _ _ hb).trans ((Below.heap_setCell _ _ _ _ hb).trans ((Below.heap_setCell _ _ _ _ hb).trans ((Below.heap_setCell _ _ _ _ hb).trans ((Below.heap_setCell _ _ _ _ hb).trans ((Below.heap_setCell _ _ _ _ hb).trans ((Below.heap_setCell _ _ _ _ hb).trans ((Below.heap_setCell _ _ _ _ hb).trans (Below.heap_setCell _ _ _ _ hb)))))))))
                have hx10 : Ext w ((((((((((wr.setCell ⟨w.heap.size + 1, 0, none⟩ (.int .u8 t.kind)).setCell ⟨w.heap.size + 1, 1, none⟩ (.int .i64 t.low)).setCell ⟨w.heap.size + 1, 2, none⟩ (.int .i64 t.high)).setCell ⟨w.heap.size + 1, 3, none⟩ (.bool t.branded)).setCell ⟨w.heap.size + 1, 4, none⟩ (.string t.brand)).setCell ⟨w.heap.size + 1, 5, none⟩ (.string t.opaq)).setCell ⟨w.heap.size + 1, 6, none⟩ (.int .i64 sp)).setCell ⟨w.heap.size + 1, 7, none⟩ (.slice Ap t.parts.length cp)).setCell ⟨w.heap.size + 1, 8, none⟩ (.slice Am t.methods.length cm)).setCell ⟨w.heap.size + 1, 9, none⟩ (.slice Ao t.overs.length co)) := ((((((((((Hst.out.ext).setCell (by simp) _).setCell (by simp) _).setCell (by simp) _).setCell (by simp) _).setCell (by simp) _).setCell (by simp) _).setCell (by simp) _).setCell (by simp) _).setCell (by simp) _).setCell (by simp) _
                have e5 := row10_set Hst.out.rbox (.int .u8 t.kind) (.int .i64 t.low) (.int .i64 t.high) (.bool t.branded) (.string t.brand) (.string t.opaq) (.int .i64 sp) (.slice Ap t.parts.length cp) (.slice Am t.methods.length cm) (.slice Ao t.overs.length co)
                generalize ((((((((((wr.setCell ⟨w.heap.size + 1, 0, none⟩ (.int .u8 t.kind)).setCell ⟨w.heap.size + 1, 1, none⟩ (.int .i64 t.low)).setCell ⟨w.heap.size + 1, 2, none⟩ (.int .i64 t.high)).setCell ⟨w.heap.size + 1, 3, none⟩ (.bool t.branded)).setCell ⟨w.heap.size + 1, 4, none⟩ (.string t.brand)).setCell ⟨w.heap.size + 1, 5, none⟩ (.string t.opaq)).setCell ⟨w.heap.size + 1, 6, none⟩ (.int .i64 sp)).setCell ⟨w.heap.size + 1, 7, none⟩ (.slice Ap t.parts.length cp)).setCell ⟨w.heap.size + 1, 8, none⟩ (.slice Am t.methods.length cm)).setCell ⟨w.heap.size + 1, 9, none⟩ (.slice Ao t.overs.length co)) = w10 at hk hx10 e5 ⊢
                have d0 := heap_cell e5 0 _ rfl
                have d1 := heap_cell e5 1 _ rfl
                have d2 := heap_cell e5 2 _ rfl
                have d3 := heap_cell e5 3 _ rfl
                have d4 := heap_cell e5 4 _ rfl
                have d5 := heap_cell e5 5 _ rfl
                have d6 := heap_cell e5 6 _ rfl
                have d7 := heap_cell e5 7 _ rfl
                have d8 := heap_cell e5 8 _ rfl
                have d9 := heap_cell e5 9 _ rfl
                have hm : turnT (lookI ts) t = ⟨t.kind, t.low, t.high, t.branded, t.brand, t.opaq, sp, t.parts.map (turnP (lookI ts)), t.methods.map (turnM (lookI ts)), t.overs⟩ := by rw [← Hsp.out]; rfl
                rw [hm]
                refine bodyPost_ret (v := .agg #[.int .u8 t.kind, .int .i64 t.low, .int .i64 t.high, .bool t.branded, .string t.brand, .string t.opaq, .int .i64 sp, .slice Ap t.parts.length cp, .slice Am t.methods.length cm, .slice Ao t.overs.length co]) ?_ rfl ?_
                · simp [results, Tryz.results22, go_sem, d0, d1, d2, d3, d4, d5, d6, d7, d8, d9]
                · have h1 := HN.out
                  refine ⟨_, rfl, ⟨_, ⟨_, _, _, rfl, ?_, ?_, ?_⟩, rfl⟩, hx10⟩
                  · exact Hpa.out.mono (fun b hb _ => hk b (by have := hb.1; omega)) (fun b hb _ => by have := hb.1; unfold New; omega)
                  · exact Hms.out.mono (fun b hb _ => hk b (by omega)) (fun b hb _ => by unfold New; omega)
                  · exact Hov.out.mono (fun b hb _ => hk b (by have := hb.1; omega)) (fun b hb _ => by have := hb.1; unfold New; omega)

end Go.Proofs.YtldnjnnhfeobdaaGreatDoor
