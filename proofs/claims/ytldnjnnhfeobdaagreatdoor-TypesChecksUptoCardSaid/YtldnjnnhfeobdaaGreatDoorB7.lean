/- Parts of the proof, joined: Contract: the line of a type. Conditions: a right type, lengths below 2^47; Contract: CheckApart. Conditions: lengths below 2^20; Plain theory: a text of words and numerals is read in one way. No program. No condition; Plain theory: the text of a type: graphs that run beside each other have the same texts. No program. No condition. -/
import Derived.Lib.ItoaMem
import Derived.Lib.Join
import Derived.Test.YtldnjnnhfeobdaaGreatDoorB6
import Derived.Test.YtldnjnnhfeobdaaGreatDoorB1
import Derived.Test.YtldnjnnhfeobdaaGreatDoorB3
import Derived.Test.YtldnjnnhfeobdaaGreatDoorB4
namespace Go.Proofs.YtldnjnnhfeobdaaGreatDoor
set_option linter.all false
set_option linter.unusedSimpArgs false
set_option linter.unusedVariables false
open Go.RowKit Go.Shelf

theorem grow_ext (w : World) (os : Array Obj) : Ext w (Go.Sort.grow w os) :=
  ⟨rfl, rfl, rfl, by simp [Go.Sort.grow], fun k hk => by simp [Go.Sort.grow, Array.getElem?_append_left hk]⟩
theorem itoa_any (n : Int) (h0 : -9223372036854775808 ≤ n) (h1 : n ≤ 9223372036854775807) (w : World) (hG : Glob w) : Calls Tryz.prog 113 #[.int .i64 n] w (Ret w (.string ⟨(Lib.itoa n).toArray⟩)) :=
  (Tryz.strconv_Itoa n h0 h1 w hG.tab).mono fun e w' ⟨he, k, os, hw⟩ => ⟨he, by rw [hw]; exact ((Ext.refl w).drewN k).trans (grow_ext _ _)⟩
def midTx (t : Ty) : List UInt8 :=
  if t.kind = 3 then [32] ++ Lib.itoa t.low ++ [32] ++ Lib.itoa t.high
  else if t.kind = 9 ∨ t.kind = 11 ∨ t.kind = 10 ∨ t.kind = 12 then (if t.branded then [32, 34] ++ t.brand.data.toList ++ [34] else [32, 45])
  else if t.kind = 13 then [32] ++ t.opaq.data.toList else []
def superTx (num : Int → ByteArray) (t : Ty) : List UInt8 := if hasSuperB t.kind then [32] ++ (num t.super).data.toList else []
def partTx (num : Int → ByteArray) (p : Part) : List UInt8 := [32] ++ p.name.data.toList ++ [58] ++ (num p.type).data.toList
def overTx (o : Over) : List UInt8 := [32] ++ o.name.data.toList ++ [61] ++ o.proc.data.toList
def lineTx (num : Int → ByteArray) (t : Ty) : List UInt8 :=
  Lib.itoa t.kind ++ midTx t ++ superTx num t ++ t.parts.flatMap (partTx num) ++ t.methods.flatMap (methodTx num) ++ t.overs.flatMap overTx ++ [10]
theorem MS.inner {w : World} {B b : Nat} {fv : Value} {K : List Nat} {bm : Nat} {o : Obj} {l : List UInt8} {wr : World} (h : MS w B b fv K bm o l wr) (po : Obj) (hpo : ∀ c f, po ≠ .cells c 5 f) :
    MS wr B b fv (bm :: K) wr.heap.size po l (wr.alloc po) :=
  ⟨h.wr.add po hpo, heap_alloc_self _ _, (Below.refl _ _).alloc h.le _, fun k hk => Below.heap_alloc _ _ _ (h.wr.ks k hk).2.1⟩
theorem MS.back {w : World} {B b : Nat} {fv : Value} {K : List Nat} {bm pb : Nat} {o po : Obj} {l l' : List UInt8} {wr w4 : World} (h : MS w B b fv K bm o l wr) (h2 : MS wr B b fv (bm :: K) pb po l' w4) :
    MS w B b fv K bm o l' w4 :=
  ⟨h2.wr.sub (fun k hk => by simp only [List.mem_cons] at hk ⊢; exact .inr hk), by rw [h2.keep bm (by simp)]; exact h.box, h.below.trans h2.below, fun k hk => by rw [h2.keep k (by simp [hk])]; exact h.keep k hk⟩
theorem flat_take_le {α : Type} (f : α → List UInt8) (l : List α) (k : Nat) (hk : k < l.length) : ((l.take k).flatMap f).length + (f l[k]).length ≤ (l.flatMap f).length := by
  have h1 := flat_take_one f l k hk
  have h2 : l.flatMap f = (l.take (k + 1)).flatMap f ++ (l.drop (k + 1)).flatMap f := by rw [← List.flatMap_append, List.take_append_drop]
  rw [h2, List.length_append, h1, List.length_append]
  omega

set_option maxRecDepth 100000 in
set_option maxHeartbeats 16000000 in
theorem line_any (w0 w : World) (B b g : Nat) (cb : Array Value) (num : Int → ByteArray) (ok : Int → Prop) (l : List UInt8) (K : List Nat) (n : Nat) (t : Ty) (vp vm vo : Value)
    (hx0 : Ext w0 w) (hB0 : w0.heap.size ≤ B) (hW : Wr w B b (.func (.func g) #[] cb) l K) (hB : B ≤ w.heap.size) (hN : NumP w B g cb num ok) (hof : TyOf w0 t vp vm vo) (hf : Fine n t)
    (hok : ∀ i : Int, 0 ≤ i → i < n → ok i) (hG : Glob w0) (hs : TySmall t) (hnum : ∀ i, ok i → (num i).size ≤ 1048576) (hlo : -9223372036854775808 ≤ t.low ∧ t.low ≤ 9223372036854775807) (hhi : -9223372036854775808 ≤ t.high ∧ t.high ≤ 9223372036854775807)
    (hitl : (Lib.itoa t.low).length ≤ 1048576) (hith : (Lib.itoa t.high).length ≤ 1048576) (hlen : l.length + (lineTx num t).length ≤ 140737488355328) :
    Calls Tryz.prog 114 #[.pointer (some ⟨b, 0, none⟩), tyV t vp vm vo] w fun e w' => e = .returned (.tuple #[]) ∧ WrPost w B b (.func (.func g) #[] cb) (l ++ lineTx num t) K w' := by
  have hbel : ∀ w', Below B w w' → Ext w0 w' := fun w' h => Below.trans hx0 (Below.mono h hB0)
  have hlens : (lineTx num t).length = (Lib.itoa t.kind).length + (midTx t).length + (superTx num t).length + (t.parts.flatMap (partTx num)).length + (t.methods.flatMap (methodTx num)).length + (t.overs.flatMap overTx).length + 1 := by
    simp [lineTx]; omega
  have hit := fun (i : Int) (h : -9223372036854775808 ≤ i ∧ i ≤ 9223372036854775807) (w' : World) (hb : Below B w w') => itoa_any i h.1 h.2 w' (hG.mono (hbel w' hb))
  have hnr := fun (i : Int) (h : 0 ≤ i ∧ i < n) (w' : World) (hb : Below B w w') => hN.run i (hok i h.1 h.2) w' hb
  have hns := fun (i : Int) (h : 0 ≤ i ∧ i < n) => hnum i (hok i h.1 h.2)
  have hme := fun (l' : List UInt8) (w' : World) (m : Method) (va vr : Value) (hb : Below B w w') (hm : m ∈ t.methods) (hW' : Wr w' B b (.func (.func g) #[] cb) l' (w.heap.size :: K)) (ha : Sl intE w0 va m.args) (hr : Sl strE w0 vr m.raises) (hl' : l'.length + (methodTx num m).length ≤ 140737488355328) =>
    method_any w0 w' B b g cb num ok l' (w.heap.size :: K) m va vr (hbel w' hb) hB0 hW' (Nat.le_trans hW'.base (Nat.le_of_lt hW'.lt)) (hN.later hb) ha hr (fun a h => hok a (hf.arg m hm a h).1 (hf.arg m hm a h).2) (fun h => hok _ h ((hf.result m hm).elim (fun e => by omega) (fun e => e.2))) (by have := hf.args m hm; omega) (by have := hf.raises m hm; omega) (hs.method m hm).1 (hs.method m hm).2.1 hl'
  have eg : ∀ args w, (callFunc g args).run Tryz.prog w = .ok (.enter g args) w := hN.ent
  obtain ⟨Ap, cp, ep, hsp⟩ := hof.parts.part
  obtain ⟨Am, cm, em, hsm⟩ := hof.methods.method
  obtain ⟨Ao, co, eo, hso⟩ := hof.overs.over
  subst ep em eo
  have hms : MS w B b (.func (.func g) #[] cb) K w.heap.size (.cells #[.int .u8 t.kind, .int .i64 t.low, .int .i64 t.high, .bool t.branded, .string t.brand, .string t.opaq, .int .i64 t.super, .slice Ap t.parts.length cp, .slice Am t.methods.length cm, .slice Ao t.overs.length co] 42) l (w.alloc (.cells #[.int .u8 t.kind, .int .i64 t.low, .int .i64 t.high, .bool t.branded, .string t.brand, .string t.opaq, .int .i64 t.super, .slice Ap t.parts.length cp, .slice Am t.methods.length cm, .slice Ao t.overs.length co] 42)) := ⟨hW.add _ (by rintro c f h; injection h with _ h _; cases h), heap_alloc_self _ _, (Below.refl _ _).alloc hB _, fun k hk => Below.heap_alloc _ _ _ (hW.ks k hk).2.1⟩
  have hS : ∀ l' w', MS w B b (.func (.func g) #[] cb) K w.heap.size (.cells #[.int .u8 t.kind, .int .i64 t.low, .int .i64 t.high, .bool t.branded, .string t.brand, .string t.opaq, .int .i64 t.super, .slice Ap t.parts.length cp, .slice Am t.methods.length cm, .slice Ao t.overs.length co] 42) l' w' → (w'.cell? ⟨w.heap.size, 0, none⟩ = some (.int .u8 t.kind) ∧ w'.cell? ⟨w.heap.size, 1, none⟩ = some (.int .i64 t.low) ∧ w'.cell? ⟨w.heap.size, 2, none⟩ = some (.int .i64 t.high) ∧ w'.cell? ⟨w.heap.size, 3, none⟩ = some (.bool t.branded) ∧ w'.cell? ⟨w.heap.size, 4, none⟩ = some (.string t.brand) ∧ w'.cell? ⟨w.heap.size, 5, none⟩ = some (.string t.opaq) ∧ w'.cell? ⟨w.heap.size, 6, none⟩ = some (.int .i64 t.super) ∧ w'.cell? ⟨w.heap.size, 7, none⟩ = some (.slice Ap t.parts.length cp) ∧ w'.cell? ⟨w.heap.size, 8, none⟩ = some (.slice Am t.methods.length cm) ∧ w'.cell? ⟨w.heap.size, 9, none⟩ = some (.slice Ao t.overs.length co) ∧ w'.cell? ⟨b, 2, none⟩ = some (.func (.func g) #[] cb)) := fun l' w' h =>
    ⟨heap_cell h.box 0 _ rfl, heap_cell h.box 1 _ rfl, heap_cell h.box 2 _ rfl, heap_cell h.box 3 _ rfl, heap_cell h.box 4 _ rfl, heap_cell h.box 5 _ rfl, heap_cell h.box 6 _ rfl, heap_cell h.box 7 _ rfl, heap_cell h.box 8 _ rfl, heap_cell h.box 9 _ rfl, h.num⟩
  have hmd : lineTx num t = Lib.itoa t.kind ++ midTx t ++ superTx num t ++ t.parts.flatMap (partTx num) ++ t.methods.flatMap (methodTx num) ++ t.overs.flatMap overTx ++ [10] := rfl
  have hkd := hf.kind
  have hsu := hf.super
  have hbr := hs.brand
  have hop := hs.opaq
  have hpt := hf.part
  have hpn := hs.part
  have hon := hs.over
  have hpl := hf.parts
  have hml := hf.methods
  have hol := hf.overs
  have Hms := Lib.hid hms
  have HS := Lib.hid hS
  have Hit := Lib.hid hit
  have Hnr := Lib.hid hnr
  have Hns := Lib.hid hns
  have Hme := Lib.hid hme
  have Hbel := Lib.hid hbel
  have Hsp := Lib.hid hsp
  have Hsm := Lib.hid hsm
  have Hso := Lib.hid hso
  have Hlens := Lib.hid hlens
  have Hmd := Lib.hid hmd
  have Hsu := Lib.hid hsu
  have Hpt := Lib.hid hpt
  have Hpn := Lib.hid hpn
  have Hon := Lib.hid hon
  have Hln := Lib.hid hlen
  have hkb : (Lib.itoa t.kind).length ≤ 140737488355328 := by omega
  clear hms hS hit hnr hns hme hbel hsp hsm hso hlens hmd hsu hpt hpn hon hlen hof hf hok hG hs hN hW hnum
  unfold tyV
  generalize lineTx num t = TX at Hln Hlens Hmd ⊢
  have hwk : IntKind.i64.wrap t.kind = t.kind := IntWalk.i64_in _ (by omega)
  go_enter Tryz.func114, Tryz.ntmps114
  go_wp2_with fail
  generalize w.alloc (.cells #[.int .u8 t.kind, .int .i64 t.low, .int .i64 t.high, .bool t.branded, .string t.brand, .string t.opaq, .int .i64 t.super, .slice Ap t.parts.length cp, .slice Am t.methods.length cm, .slice Ao t.overs.length co] 42) = w1 at Hms ⊢
  generalize w.heap.size = bm at Hms HS Hme ⊢
  go_cut [] (fun wx => Hid (MS w B b (.func (.func g) #[] cb) K bm (.cells #[.int .u8 t.kind, .int .i64 t.low, .int .i64 t.high, .bool t.branded, .string t.brand, .string t.opaq, .int .i64 t.super, .slice Ap t.parts.length cp, .slice Am t.methods.length cm, .slice Ao t.overs.length co] 42) (l ++ Lib.itoa t.kind) wx))
  case first =>
    have hm1 := Hms.out.later (Ext.refl _).drew
    have Hm1 := Lib.hid hm1
    clear hm1
    go_region_held3 (fun w' => w'.cell? ⟨bm, 0, none⟩ = some (.int .u8 t.kind) ∧ w'.cell? ⟨bm, 1, none⟩ = some (.int .i64 t.low) ∧ w'.cell? ⟨bm, 2, none⟩ = some (.int .i64 t.high) ∧ w'.cell? ⟨bm, 3, none⟩ = some (.bool t.branded) ∧ w'.cell? ⟨bm, 4, none⟩ = some (.string t.brand) ∧ w'.cell? ⟨bm, 5, none⟩ = some (.string t.opaq) ∧ w'.cell? ⟨bm, 6, none⟩ = some (.int .i64 t.super) ∧ w'.cell? ⟨bm, 7, none⟩ = some (.slice Ap t.parts.length cp) ∧ w'.cell? ⟨bm, 8, none⟩ = some (.slice Am t.methods.length cm) ∧ w'.cell? ⟨bm, 9, none⟩ = some (.slice Ao t.overs.length co) ∧ w'.cell? ⟨b, 2, none⟩ = some (.func (.func g) #[] cb)) (first | exact HS.out _ _ Hm1.out | exact HS.out _ _ hm9 | exact HS.out _ _ hm3 | exact HS.out _ _ hm2) (first | (go_at_call 113; refine (Hit.out _ ⟨by omega, by omega⟩ _ Hm1.out.below).mono ?_; rintro e w2 ⟨rfl, hxw2⟩; have hm2 := Hm1.out.later hxw2) | (go_at_call 148; refine (writeString_any w2 B b (.func (.func g) #[] cb) l (bm :: K) _ hm2.wr hm2.le (by have := Hln.out; have := Hlens.out; simp only [ba_app_size, size_mk]; simp at this ⊢; omega)).mono ?_; rintro e w9 ⟨rfl, hw9⟩; have hm9 := hm2.write hw9))
    all_goals
      go_wp2_with fail
      go_meet
      have h := hm9
      (try simp only [ba_app, ba_mk] at h)
      exact Lib.hid h
  case rest =>
    clear Hms
    replace hcut := Lib.hid hcut.out
    obtain ⟨d0, d1, d2, d3, d4, d5, d6, d7, d8, d9, d10⟩ := HS.out _ _ hcut.out
    go_upto_block 0 with fail
    go_cut [] (fun wx => Hid (MS w B b (.func (.func g) #[] cb) K bm (.cells #[.int .u8 t.kind, .int .i64 t.low, .int .i64 t.high, .bool t.branded, .string t.brand, .string t.opaq, .int .i64 t.super, .slice Ap t.parts.length cp, .slice Am t.methods.length cm, .slice Ao t.overs.length co] 42) ((l ++ Lib.itoa t.kind) ++ midTx t) wx))
    case first =>
      by_cases hk : t.kind = 3
      · skip
        have hmx : midTx t = [32] ++ Lib.itoa t.low ++ [32] ++ Lib.itoa t.high := by unfold midTx; rw [if_pos hk]
        have q3 : (t.kind == 3) = true := by rw [beq_iff_eq]; exact hk
        have Hmx := Lib.hid hmx
        have Hk := Lib.hid hk
        clear hmx hk
        have hm1 := hcut.out.later (Ext.refl _).drew
        have Hm1 := Lib.hid hm1
        clear hm1
        have tok1 : True := trivial
        have hc1 : ¬ 9223372036854775807 < 1 + (Lib.itoa t.low).length := by omega
        have hc2 : ¬ 9223372036854775807 < 1 + (Lib.itoa t.low).length + 1 := by omega
        have hc3 : ¬ 9223372036854775807 < 1 + (Lib.itoa t.low).length + 1 + (Lib.itoa t.high).length := by omega
        go_wp2_with fail
        go_region_held3 (fun w' => w'.cell? ⟨bm, 0, none⟩ = some (.int .u8 t.kind) ∧ w'.cell? ⟨bm, 1, none⟩ = some (.int .i64 t.low) ∧ w'.cell? ⟨bm, 2, none⟩ = some (.int .i64 t.high) ∧ w'.cell? ⟨bm, 3, none⟩ = some (.bool t.branded) ∧ w'.cell? ⟨bm, 4, none⟩ = some (.string t.brand) ∧ w'.cell? ⟨bm, 5, none⟩ = some (.string t.opaq) ∧ w'.cell? ⟨bm, 6, none⟩ = some (.int .i64 t.super) ∧ w'.cell? ⟨bm, 7, none⟩ = some (.slice Ap t.parts.length cp) ∧ w'.cell? ⟨bm, 8, none⟩ = some (.slice Am t.methods.length cm) ∧ w'.cell? ⟨bm, 9, none⟩ = some (.slice Ao t.overs.length co) ∧ w'.cell? ⟨b, 2, none⟩ = some (.func (.func g) #[] cb)) (first | exact HS.out _ _ Hm1.out | exact HS.out _ _ hm9 | exact HS.out _ _ hm3 | exact HS.out _ _ hm2) (first | (go_at_call 113; have _t := tok1; refine (Hit.out _ hlo _ Hm1.out.below).mono ?_; clear tok1; rintro e w2 ⟨rfl, hxw2⟩; have hm2 := Hm1.out.later hxw2) | (go_at_call 113; refine (Hit.out _ hhi _ hm2.below).mono ?_; rintro e w3 ⟨rfl, hxw3⟩; have hm3 := hm2.later hxw3) | (go_at_call 148; refine (writeString_any w3 B b (.func (.func g) #[] cb) (l ++ Lib.itoa t.kind) (bm :: K) _ hm3.wr hm3.le (by have := Hln.out; have := Hlens.out; rw [Hmx.out] at this; simp only [ba_app_size, size_mk]; simp at this ⊢; omega)).mono ?_; rintro e w9 ⟨rfl, hw9⟩; have hm9 := hm3.write hw9))
        all_goals
          go_wp2_with fail
          go_meet
          have h := hm9
          (try simp only [ba_app, ba_mk] at h)
          rw [Hmx.out]
          exact Lib.hid h
      have nk3 := hk
      clear hk
      by_cases hk : t.kind = 9
      · skip
        obtain hbd | hbd : t.branded = false ∨ t.branded = true := by cases t.branded <;> simp
        · have hmx : midTx t = [32, 45] := by unfold midTx; rw [if_neg (by omega), if_pos (by omega), hbd]; rfl
          rw [hbd] at d3
          clear hbd
          have q3 : (t.kind == 3) = false := by rw [beq_eq_false_iff_ne]; omega
          have q9 : (t.kind == 9) = true := by rw [beq_iff_eq]; exact hk
          have Hmx := Lib.hid hmx
          have Hk := Lib.hid hk
          clear hmx hk
          go_wp2_with fail
          refine (writeString_any wc B b (.func (.func g) #[] cb) (l ++ Lib.itoa t.kind) (bm :: K) ⟨#[32, 45]⟩ hcut.out.wr hcut.out.le (by have e1 : (⟨#[32, 45]⟩ : ByteArray).size = 2 := rfl; have := Hln.out; have := Hlens.out; rw [Hmx.out] at this; simp at this ⊢; omega)).mono ?_
          rintro e w9 ⟨rfl, hw9⟩
          have hm9 := hcut.out.write hw9
          go_wp2_with fail
          go_meet
          rw [Hmx.out]
          exact Lib.hid hm9
        · have hmx : midTx t = [32, 34] ++ t.brand.data.toList ++ [34] := by unfold midTx; rw [if_neg (by omega), if_pos (by omega), hbd]; rfl
          rw [hbd] at d3
          clear hbd
          have q3 : (t.kind == 3) = false := by rw [beq_eq_false_iff_ne]; omega
          have q9 : (t.kind == 9) = true := by rw [beq_iff_eq]; exact hk
          have Hmx := Lib.hid hmx
          have Hk := Lib.hid hk
          clear hmx hk
          have hm1 := hcut.out.later (Ext.refl _).drew
          have Hm1 := Lib.hid hm1
          clear hm1
          have hc1 : ¬ 9223372036854775807 < 2 + t.brand.size := by omega
          have hc2 : ¬ 9223372036854775807 < 2 + t.brand.size + 1 := by omega
          go_wp2_with fail
          go_region_held3 (fun w' => w'.cell? ⟨bm, 4, none⟩ = some (.string t.brand)) (first | exact (HS.out _ _ Hm1.out).2.2.2.2.1 | exact (HS.out _ _ hm9).2.2.2.2.1) (((go_at_call 148; refine (writeString_any wc.drew B b (.func (.func g) #[] cb) (l ++ Lib.itoa t.kind) (bm :: K) _ Hm1.out.wr Hm1.out.le (by have := Hln.out; have := Hlens.out; rw [Hmx.out] at this; simp only [ba_app_size, size_mk]; simp at this ⊢; omega)).mono ?_; rintro e w9 ⟨rfl, hw9⟩; have hm9 := Hm1.out.write hw9)))
          all_goals
            go_wp2_with fail
            go_meet
            have h := hm9
            (try simp only [ba_app, ba_mk] at h)
            rw [Hmx.out]
            exact Lib.hid h
      have nk9 := hk
      clear hk
      by_cases hk : t.kind = 11
      · skip
        obtain hbd | hbd : t.branded = false ∨ t.branded = true := by cases t.branded <;> simp
        · have hmx : midTx t = [32, 45] := by unfold midTx; rw [if_neg (by omega), if_pos (by omega), hbd]; rfl
          rw [hbd] at d3
          clear hbd
          have q3 : (t.kind == 3) = false := by rw [beq_eq_false_iff_ne]; omega
          have q9 : (t.kind == 9) = false := by rw [beq_eq_false_iff_ne]; omega
          have q11 : (t.kind == 11) = true := by rw [beq_iff_eq]; exact hk
          have Hmx := Lib.hid hmx
          have Hk := Lib.hid hk
          clear hmx hk
          go_wp2_with fail
          refine (writeString_any wc B b (.func (.func g) #[] cb) (l ++ Lib.itoa t.kind) (bm :: K) ⟨#[32, 45]⟩ hcut.out.wr hcut.out.le (by have e1 : (⟨#[32, 45]⟩ : ByteArray).size = 2 := rfl; have := Hln.out; have := Hlens.out; rw [Hmx.out] at this; simp at this ⊢; omega)).mono ?_
          rintro e w9 ⟨rfl, hw9⟩
          have hm9 := hcut.out.write hw9
          go_wp2_with fail
          go_meet
          rw [Hmx.out]
          exact Lib.hid hm9
        · have hmx : midTx t = [32, 34] ++ t.brand.data.toList ++ [34] := by unfold midTx; rw [if_neg (by omega), if_pos (by omega), hbd]; rfl
          rw [hbd] at d3
          clear hbd
          have q3 : (t.kind == 3) = false := by rw [beq_eq_false_iff_ne]; omega
          have q9 : (t.kind == 9) = false := by rw [beq_eq_false_iff_ne]; omega
          have q11 : (t.kind == 11) = true := by rw [beq_iff_eq]; exact hk
          have Hmx := Lib.hid hmx
          have Hk := Lib.hid hk
          clear hmx hk
          have hm1 := hcut.out.later (Ext.refl _).drew
          have Hm1 := Lib.hid hm1
          clear hm1
          have hc1 : ¬ 9223372036854775807 < 2 + t.brand.size := by omega
          have hc2 : ¬ 9223372036854775807 < 2 + t.brand.size + 1 := by omega
          go_wp2_with fail
          go_region_held3 (fun w' => w'.cell? ⟨bm, 4, none⟩ = some (.string t.brand)) (first | exact (HS.out _ _ Hm1.out).2.2.2.2.1 | exact (HS.out _ _ hm9).2.2.2.2.1) (((go_at_call 148; refine (writeString_any wc.drew B b (.func (.func g) #[] cb) (l ++ Lib.itoa t.kind) (bm :: K) _ Hm1.out.wr Hm1.out.le (by have := Hln.out; have := Hlens.out; rw [Hmx.out] at this; simp only [ba_app_size, size_mk]; simp at this ⊢; omega)).mono ?_; rintro e w9 ⟨rfl, hw9⟩; have hm9 := Hm1.out.write hw9)))
          all_goals
            go_wp2_with fail
            go_meet
            have h := hm9
            (try simp only [ba_app, ba_mk] at h)
            rw [Hmx.out]
            exact Lib.hid h
      have nk11 := hk
      clear hk
      by_cases hk : t.kind = 10
      · skip
        obtain hbd | hbd : t.branded = false ∨ t.branded = true := by cases t.branded <;> simp
        · have hmx : midTx t = [32, 45] := by unfold midTx; rw [if_neg (by omega), if_pos (by omega), hbd]; rfl
          rw [hbd] at d3
          clear hbd
          have q3 : (t.kind == 3) = false := by rw [beq_eq_false_iff_ne]; omega
          have q9 : (t.kind == 9) = false := by rw [beq_eq_false_iff_ne]; omega
          have q11 : (t.kind == 11) = false := by rw [beq_eq_false_iff_ne]; omega
          have q10 : (t.kind == 10) = true := by rw [beq_iff_eq]; exact hk
          have Hmx := Lib.hid hmx
          have Hk := Lib.hid hk
          clear hmx hk
          go_wp2_with fail
          refine (writeString_any wc B b (.func (.func g) #[] cb) (l ++ Lib.itoa t.kind) (bm :: K) ⟨#[32, 45]⟩ hcut.out.wr hcut.out.le (by have e1 : (⟨#[32, 45]⟩ : ByteArray).size = 2 := rfl; have := Hln.out; have := Hlens.out; rw [Hmx.out] at this; simp at this ⊢; omega)).mono ?_
          rintro e w9 ⟨rfl, hw9⟩
          have hm9 := hcut.out.write hw9
          go_wp2_with fail
          go_meet
          rw [Hmx.out]
          exact Lib.hid hm9
        · have hmx : midTx t = [32, 34] ++ t.brand.data.toList ++ [34] := by unfold midTx; rw [if_neg (by omega), if_pos (by omega), hbd]; rfl
          rw [hbd] at d3
          clear hbd
          have q3 : (t.kind == 3) = false := by rw [beq_eq_false_iff_ne]; omega
          have q9 : (t.kind == 9) = false := by rw [beq_eq_false_iff_ne]; omega
          have q11 : (t.kind == 11) = false := by rw [beq_eq_false_iff_ne]; omega
          have q10 : (t.kind == 10) = true := by rw [beq_iff_eq]; exact hk
          have Hmx := Lib.hid hmx
          have Hk := Lib.hid hk
          clear hmx hk
          have hm1 := hcut.out.later (Ext.refl _).drew
          have Hm1 := Lib.hid hm1
          clear hm1
          have hc1 : ¬ 9223372036854775807 < 2 + t.brand.size := by omega
          have hc2 : ¬ 9223372036854775807 < 2 + t.brand.size + 1 := by omega
          go_wp2_with fail
          go_region_held3 (fun w' => w'.cell? ⟨bm, 4, none⟩ = some (.string t.brand)) (first | exact (HS.out _ _ Hm1.out).2.2.2.2.1 | exact (HS.out _ _ hm9).2.2.2.2.1) (((go_at_call 148; refine (writeString_any wc.drew B b (.func (.func g) #[] cb) (l ++ Lib.itoa t.kind) (bm :: K) _ Hm1.out.wr Hm1.out.le (by have := Hln.out; have := Hlens.out; rw [Hmx.out] at this; simp only [ba_app_size, size_mk]; simp at this ⊢; omega)).mono ?_; rintro e w9 ⟨rfl, hw9⟩; have hm9 := Hm1.out.write hw9)))
          all_goals
            go_wp2_with fail
            go_meet
            have h := hm9
            (try simp only [ba_app, ba_mk] at h)
            rw [Hmx.out]
            exact Lib.hid h
      have nk10 := hk
      clear hk
      by_cases hk : t.kind = 12
      · skip
        obtain hbd | hbd : t.branded = false ∨ t.branded = true := by cases t.branded <;> simp
        · have hmx : midTx t = [32, 45] := by unfold midTx; rw [if_neg (by omega), if_pos (by omega), hbd]; rfl
          rw [hbd] at d3
          clear hbd
          have q3 : (t.kind == 3) = false := by rw [beq_eq_false_iff_ne]; omega
          have q9 : (t.kind == 9) = false := by rw [beq_eq_false_iff_ne]; omega
          have q11 : (t.kind == 11) = false := by rw [beq_eq_false_iff_ne]; omega
          have q10 : (t.kind == 10) = false := by rw [beq_eq_false_iff_ne]; omega
          have q12 : (t.kind == 12) = true := by rw [beq_iff_eq]; exact hk
          have Hmx := Lib.hid hmx
          have Hk := Lib.hid hk
          clear hmx hk
          go_wp2_with fail
          refine (writeString_any wc B b (.func (.func g) #[] cb) (l ++ Lib.itoa t.kind) (bm :: K) ⟨#[32, 45]⟩ hcut.out.wr hcut.out.le (by have e1 : (⟨#[32, 45]⟩ : ByteArray).size = 2 := rfl; have := Hln.out; have := Hlens.out; rw [Hmx.out] at this; simp at this ⊢; omega)).mono ?_
          rintro e w9 ⟨rfl, hw9⟩
          have hm9 := hcut.out.write hw9
          go_wp2_with fail
          go_meet
          rw [Hmx.out]
          exact Lib.hid hm9
        · have hmx : midTx t = [32, 34] ++ t.brand.data.toList ++ [34] := by unfold midTx; rw [if_neg (by omega), if_pos (by omega), hbd]; rfl
          rw [hbd] at d3
          clear hbd
          have q3 : (t.kind == 3) = false := by rw [beq_eq_false_iff_ne]; omega
          have q9 : (t.kind == 9) = false := by rw [beq_eq_false_iff_ne]; omega
          have q11 : (t.kind == 11) = false := by rw [beq_eq_false_iff_ne]; omega
          have q10 : (t.kind == 10) = false := by rw [beq_eq_false_iff_ne]; omega
          have q12 : (t.kind == 12) = true := by rw [beq_iff_eq]; exact hk
          have Hmx := Lib.hid hmx
          have Hk := Lib.hid hk
          clear hmx hk
          have hm1 := hcut.out.later (Ext.refl _).drew
          have Hm1 := Lib.hid hm1
          clear hm1
          have hc1 : ¬ 9223372036854775807 < 2 + t.brand.size := by omega
          have hc2 : ¬ 9223372036854775807 < 2 + t.brand.size + 1 := by omega
          go_wp2_with fail
          go_region_held3 (fun w' => w'.cell? ⟨bm, 4, none⟩ = some (.string t.brand)) (first | exact (HS.out _ _ Hm1.out).2.2.2.2.1 | exact (HS.out _ _ hm9).2.2.2.2.1) (((go_at_call 148; refine (writeString_any wc.drew B b (.func (.func g) #[] cb) (l ++ Lib.itoa t.kind) (bm :: K) _ Hm1.out.wr Hm1.out.le (by have := Hln.out; have := Hlens.out; rw [Hmx.out] at this; simp only [ba_app_size, size_mk]; simp at this ⊢; omega)).mono ?_; rintro e w9 ⟨rfl, hw9⟩; have hm9 := Hm1.out.write hw9)))
          all_goals
            go_wp2_with fail
            go_meet
            have h := hm9
            (try simp only [ba_app, ba_mk] at h)
            rw [Hmx.out]
            exact Lib.hid h
      have nk12 := hk
      clear hk
      by_cases hk : t.kind = 13
      · skip
        have hmx : midTx t = [32] ++ t.opaq.data.toList := by unfold midTx; rw [if_neg (by omega), if_neg (by omega), if_pos hk]
        have q3 : (t.kind == 3) = false := by rw [beq_eq_false_iff_ne]; omega
        have q9 : (t.kind == 9) = false := by rw [beq_eq_false_iff_ne]; omega
        have q11 : (t.kind == 11) = false := by rw [beq_eq_false_iff_ne]; omega
        have q10 : (t.kind == 10) = false := by rw [beq_eq_false_iff_ne]; omega
        have q12 : (t.kind == 12) = false := by rw [beq_eq_false_iff_ne]; omega
        have q13 : (t.kind == 13) = true := by rw [beq_iff_eq]; exact hk
        have Hmx := Lib.hid hmx
        have Hk := Lib.hid hk
        clear hmx hk
        have hm1 := hcut.out.later (Ext.refl _).drew
        have Hm1 := Lib.hid hm1
        clear hm1
        have hc1 : ¬ 9223372036854775807 < 1 + t.opaq.size := by omega
        go_wp2_with fail
        go_region_held3 (fun w' => w'.cell? ⟨bm, 0, none⟩ = some (.int .u8 t.kind) ∧ w'.cell? ⟨bm, 1, none⟩ = some (.int .i64 t.low) ∧ w'.cell? ⟨bm, 2, none⟩ = some (.int .i64 t.high) ∧ w'.cell? ⟨bm, 3, none⟩ = some (.bool t.branded) ∧ w'.cell? ⟨bm, 4, none⟩ = some (.string t.brand) ∧ w'.cell? ⟨bm, 5, none⟩ = some (.string t.opaq) ∧ w'.cell? ⟨bm, 6, none⟩ = some (.int .i64 t.super) ∧ w'.cell? ⟨bm, 7, none⟩ = some (.slice Ap t.parts.length cp) ∧ w'.cell? ⟨bm, 8, none⟩ = some (.slice Am t.methods.length cm) ∧ w'.cell? ⟨bm, 9, none⟩ = some (.slice Ao t.overs.length co) ∧ w'.cell? ⟨b, 2, none⟩ = some (.func (.func g) #[] cb)) (first | exact HS.out _ _ Hm1.out | exact HS.out _ _ hm9 | exact HS.out _ _ hm3 | exact HS.out _ _ hm2) (((go_at_call 148; refine (writeString_any wc.drew B b (.func (.func g) #[] cb) (l ++ Lib.itoa t.kind) (bm :: K) _ Hm1.out.wr Hm1.out.le (by have := Hln.out; have := Hlens.out; rw [Hmx.out] at this; simp only [ba_app_size, size_mk]; simp at this ⊢; omega)).mono ?_; rintro e w9 ⟨rfl, hw9⟩; have hm9 := Hm1.out.write hw9)))
        all_goals
          go_wp2_with fail
          go_meet
          have h := hm9
          (try simp only [ba_app, ba_mk] at h)
          rw [Hmx.out]
          exact Lib.hid h
      have hmx : midTx t = [] := by unfold midTx; rw [if_neg (by omega), if_neg (by omega), if_neg (by omega)]
      have q3 : (t.kind == 3) = false := by rw [beq_eq_false_iff_ne]; omega
      have q9 : (t.kind == 9) = false := by rw [beq_eq_false_iff_ne]; omega
      have q11 : (t.kind == 11) = false := by rw [beq_eq_false_iff_ne]; omega
      have q10 : (t.kind == 10) = false := by rw [beq_eq_false_iff_ne]; omega
      have q12 : (t.kind == 12) = false := by rw [beq_eq_false_iff_ne]; omega
      have q13 : (t.kind == 13) = false := by rw [beq_eq_false_iff_ne]; omega
      have Hmx := Lib.hid hmx
      have Hk := Lib.hid hk
      clear hmx hk
      go_wp2_with fail
      go_meet
      rw [Hmx.out, List.append_nil]
      exact Lib.hid hcut.out
    case rest =>
      clear d0 d1 d2 d3 d4 d5 d6 d7 d8 d9 d10
      replace hcut := Lib.hid hcut.out
      obtain ⟨d0, d1, d2, d3, d4, d5, d6, d7, d8, d9, d10⟩ := HS.out _ _ hcut.out
      go_wp2_with fail
      refine (hasSuper_any _ _).mono ?_
      rintro e w' ⟨rfl, rfl⟩
      go_upto_if 65 with fail
      go_cut [] (fun wx => Hid (MS w B b (.func (.func g) #[] cb) K bm (.cells #[.int .u8 t.kind, .int .i64 t.low, .int .i64 t.high, .bool t.branded, .string t.brand, .string t.opaq, .int .i64 t.super, .slice Ap t.parts.length cp, .slice Am t.methods.length cm, .slice Ao t.overs.length co] 42) (((l ++ Lib.itoa t.kind) ++ midTx t) ++ superTx num t) wx))
      case first =>
        cases hsup : hasSuperB t.kind
        · skip
          have hre : superTx num t = [] := by unfold superTx; rw [hsup]; rfl
          have Hre := Lib.hid hre
          clear hre
          go_wp2_with fail
          go_meet
          rw [Hre.out, List.append_nil]
          exact Lib.hid hcut.out
        · skip
          have hm1 := hcut.out.later (Ext.refl _).drew
          have Hm1 := Lib.hid hm1
          clear hm1
          have hre : superTx num t = [32] ++ (num t.super).data.toList := by unfold superTx; rw [hsup]; rfl
          have hsr := Hsu.out hsup
          have hns := Hns.out t.super hsr
          have Hn1 := Lib.hid (fun w' hb => Hnr.out t.super hsr w' hb)
          have hc1 : ¬ 9223372036854775807 < 1 + (num t.super).size := by omega
          have Hre := Lib.hid hre
          clear hre hsr
          go_wp2_with fail
          go_region_held3 (fun w' => w'.cell? ⟨bm, 0, none⟩ = some (.int .u8 t.kind) ∧ w'.cell? ⟨bm, 1, none⟩ = some (.int .i64 t.low) ∧ w'.cell? ⟨bm, 2, none⟩ = some (.int .i64 t.high) ∧ w'.cell? ⟨bm, 3, none⟩ = some (.bool t.branded) ∧ w'.cell? ⟨bm, 4, none⟩ = some (.string t.brand) ∧ w'.cell? ⟨bm, 5, none⟩ = some (.string t.opaq) ∧ w'.cell? ⟨bm, 6, none⟩ = some (.int .i64 t.super) ∧ w'.cell? ⟨bm, 7, none⟩ = some (.slice Ap t.parts.length cp) ∧ w'.cell? ⟨bm, 8, none⟩ = some (.slice Am t.methods.length cm) ∧ w'.cell? ⟨bm, 9, none⟩ = some (.slice Ao t.overs.length co) ∧ w'.cell? ⟨b, 2, none⟩ = some (.func (.func g) #[] cb)) (first | exact HS.out _ _ Hm1.out | exact HS.out _ _ hm9 | exact HS.out _ _ hm3 | exact HS.out _ _ hm2) (first | (go_at_call 148; refine (writeString_any w2 B b (.func (.func g) #[] cb) ((l ++ Lib.itoa t.kind) ++ midTx t) (bm :: K) _ hm2.wr hm2.le (by have := Hln.out; have := Hlens.out; rw [Hre.out] at this; simp only [ba_app_size, size_mk]; simp at this ⊢; omega)).mono ?_; rintro e w9 ⟨rfl, hw9⟩; have hm9 := hm2.write hw9) | (refine (Hn1.out _ Hm1.out.below).mono ?_; rintro e w2 ⟨rfl, hx2⟩; have hm2 := Hm1.out.later hx2))
          all_goals
            go_wp2_with fail
            go_meet
            have h := hm9
            (try simp only [ba_app, ba_mk] at h)
            rw [Hre.out]
            exact Lib.hid h
      case rest =>
        clear d0 d1 d2 d3 d4 d5 d6 d7 d8 d9 d10
        replace hcut := Lib.hid hcut.out
        obtain ⟨d0, d1, d2, d3, d4, d5, d6, d7, d8, d9, d10⟩ := HS.out _ _ hcut.out
        go_wp2_with fail
        clear d0 d1 d2 d3 d4 d5 d6 d7 d8 d9 d10
        go_loopw [81] (fun i wr => ∃ k : Nat, k ≤ t.parts.length ∧ i = .int .i64 k ∧ Hid (MS w B b (.func (.func g) #[] cb) K bm (.cells #[.int .u8 t.kind, .int .i64 t.low, .int .i64 t.high, .bool t.branded, .string t.brand, .string t.opaq, .int .i64 t.super, .slice Ap t.parts.length cp, .slice Am t.methods.length cm, .slice Ao t.overs.length co] 42) ((((l ++ Lib.itoa t.kind) ++ midTx t) ++ superTx num t) ++ (t.parts.take k).flatMap (partTx num)) wr)) (fun i _ => t.parts.length - (intOf i).toNat)
        case atStart => exact ⟨0, by omega, by simp, Lib.hid (by simpa using hcut.out)⟩
        case round =>
          clear hcut
          obtain ⟨k, hk, rfl, Hmr⟩ := hrel
          by_cases hlt : k < t.parts.length
          · obtain ⟨b1, o1, rfl, e0, e1⟩ := Hsp.out k hlt
            have hxr := Hbel.out _ Hmr.out.below
            replace e0 := hxr.cell e0
            replace e1 := hxr.cell e1
            have hpm := List.getElem_mem hlt
            have hpr := Hpt.out _ hpm
            have hns := Hns.out _ hpr
            have hnn := Hpn.out _ hpm
            have htk := flat_take_le (partTx num) t.parts k hlt
            have Hfl := Lib.hid (flat_take_one (partTx num) t.parts k hlt)
            have hpt : partTx num t.parts[k] = [32] ++ (t.parts[k]).name.data.toList ++ [58] ++ (num (t.parts[k]).type).data.toList := rfl
            have Hn1 := Lib.hid (fun w' hb => Hnr.out (t.parts[k]).type hpr w' hb)
            generalize t.parts[k] = p at *
            have htk2 : ((t.parts.take k).flatMap (partTx num)).length + (1 + p.name.size + 1 + (num p.type).size) ≤ (t.parts.flatMap (partTx num)).length := by
              rw [hpt] at htk; simp at htk ⊢; omega
            have Htk := Lib.hid htk2
            have Hpe := Lib.hid hpt
            have hc1 : ¬ 9223372036854775807 < 1 + p.name.size := by omega
            have hc2 : ¬ 9223372036854775807 < 1 + p.name.size + 1 := by omega
            have hc3 : ¬ 9223372036854775807 < 1 + p.name.size + 1 + (num p.type).size := by omega
            have Hin := Lib.hid (Hmr.out.inner (.cells #[.string p.name, .int .i64 p.type] 95) (by rintro c f h; injection h with _ h _; cases h))
            have HPS := Lib.hid (show ∀ l' w', MS wr B b (.func (.func g) #[] cb) (bm :: K) wr.heap.size (.cells #[.string p.name, .int .i64 p.type] 95) l' w' → (w'.cell? ⟨wr.heap.size, 0, none⟩ = some (.string p.name) ∧ w'.cell? ⟨wr.heap.size, 1, none⟩ = some (.int .i64 p.type) ∧ w'.cell? ⟨b, 2, none⟩ = some (.func (.func g) #[] cb)) from fun l' w' h => ⟨heap_cell h.box 0 _ rfl, heap_cell h.box 1 _ rfl, h.num⟩)
            clear hpm hpr hxr hpt htk htk2
            go_wp2_with fail
            clear e0 e1
            generalize wr.alloc (.cells #[.string p.name, .int .i64 p.type] 95) = w1' at Hin ⊢
            generalize wr.heap.size = pb at Hin HPS ⊢
            have hm1 := Hin.out.later (Ext.refl _).drew
            have Hm1 := Lib.hid hm1
            clear hm1
            go_region_held3 (fun w' => w'.cell? ⟨pb, 0, none⟩ = some (.string p.name) ∧ w'.cell? ⟨pb, 1, none⟩ = some (.int .i64 p.type) ∧ w'.cell? ⟨b, 2, none⟩ = some (.func (.func g) #[] cb)) (first | exact HPS.out _ _ Hm1.out | exact HPS.out _ _ hm9 | exact HPS.out _ _ hm2) (first | (go_at_call 148; refine (writeString_any w2 B b (.func (.func g) #[] cb) ((((l ++ Lib.itoa t.kind) ++ midTx t) ++ superTx num t) ++ (t.parts.take k).flatMap (partTx num)) (pb :: bm :: K) _ hm2.wr hm2.le (by have a1 := Hln.out; have a2 := Hlens.out; have a3 := Htk.out; have e1 : (⟨#[32]⟩ : ByteArray).size = 1 := rfl; have e2 : (⟨#[58]⟩ : ByteArray).size = 1 := rfl; have e3 : (⟨#[61]⟩ : ByteArray).size = 1 := rfl; simp only [ba_app_size, List.length_append]; omega)).mono ?_; rintro e w9 ⟨rfl, hw9⟩; have hm9 := hm2.write hw9) | (refine (Hn1.out _ (Hmr.out.below.trans Hm1.out.below)).mono ?_; rintro e w2 ⟨rfl, hx2⟩; have hm2 := Hm1.out.later hx2))
            all_goals
              have h9 := hm9
              simp only [ba_app, ba_mk] at h9
              rw [show (⟨#[32]⟩ : ByteArray).data.toList ++ p.name.data.toList ++ (⟨#[58]⟩ : ByteArray).data.toList ++ (num p.type).data.toList = partTx num p from Hpe.out.symm, List.append_assoc, ← Hfl.out] at h9
              have H9 := Lib.hid (Hmr.out.back h9)
              clear h9 hm9 hw9 hm2 hx2
              go_wp2_with fail
              go_roundw
              case rel => exact ⟨k + 1, by omega, by go_num, H9⟩
              case measure => simp [intOf]; omega
          · obtain rfl : k = t.parts.length := by omega
            rw [List.take_length] at Hmr
            obtain ⟨d0, d1, d2, d3, d4, d5, d6, d7, d8, d9, d10⟩ := HS.out _ _ Hmr.out
            go_wp2_with fail
            clear d0 d1 d2 d3 d4 d5 d6 d7 d8 d9 d10
            go_loopw [105] (fun i wq => ∃ k : Nat, k ≤ t.methods.length ∧ i = .int .i64 k ∧ Hid (MS w B b (.func (.func g) #[] cb) K bm (.cells #[.int .u8 t.kind, .int .i64 t.low, .int .i64 t.high, .bool t.branded, .string t.brand, .string t.opaq, .int .i64 t.super, .slice Ap t.parts.length cp, .slice Am t.methods.length cm, .slice Ao t.overs.length co] 42) (((((l ++ Lib.itoa t.kind) ++ midTx t) ++ superTx num t) ++ t.parts.flatMap (partTx num)) ++ (t.methods.take k).flatMap (methodTx num)) wq)) (fun i _ => t.methods.length - (intOf i).toNat)
            case atStart => exact ⟨0, by omega, by simp, Lib.hid (by simpa using Hmr.out)⟩
            case round =>
              clear Hmr
              obtain ⟨k, hk, rfl, Hmr⟩ := hrel
              by_cases hlt : k < t.methods.length
              · obtain ⟨b1, o1, va, vr, rfl, hva, hvr, e0, e1, e2, e3, e4⟩ := Hsm.out k hlt
                have hxr := Hbel.out _ Hmr.out.below
                replace e0 := hxr.cell e0
                replace e1 := hxr.cell e1
                replace e2 := hxr.cell e2
                replace e3 := hxr.cell e3
                replace e4 := hxr.cell e4
                have hpm := Lib.hid (List.getElem_mem hlt)
                have htk := Lib.hid (flat_take_le (methodTx num) t.methods k hlt)
                have Hfl := Lib.hid (flat_take_one (methodTx num) t.methods k hlt)
                generalize t.methods[k] = m at *
                obtain ⟨Aa, ca, ea⟩ := hva.len
                obtain ⟨Ar, cr, er⟩ := hvr.len
                subst ea er
                have Hin := Lib.hid (Hmr.out.later ((Ext.refl wr).alloc (.cells #[.string m.name, .slice Aa m.args.length ca, .int .i64 m.result, .slice Ar m.raises.length cr, .string m.proc] 74)))
                have Hcall := Lib.hid (Hme.out _ _ m _ _ Hin.out.below hpm.out Hin.out.wr hva hvr (by have a1 := Hln.out; have a2 := Hlens.out; have a3 := htk.out; simp only [List.length_append]; omega))
                clear hxr hva hvr
                go_wp2_with fail
                refine Hcall.out.mono ?_
                rintro e w2 ⟨rfl, hw2⟩
                have h9 := Hin.out.write hw2
                rw [List.append_assoc, ← Hfl.out] at h9
                have H9 := Lib.hid h9
                clear h9 hw2 e0 e1 e2 e3 e4
                go_wp2_with fail
                go_roundw
                case rel => exact ⟨k + 1, by omega, by go_num, H9⟩
                case measure => simp [intOf]; omega
              · obtain rfl : k = t.methods.length := by omega
                rw [List.take_length] at Hmr
                obtain ⟨d0, d1, d2, d3, d4, d5, d6, d7, d8, d9, d10⟩ := HS.out _ _ Hmr.out
                go_wp2_with fail
                clear d0 d1 d2 d3 d4 d5 d6 d7 d8 d9 d10
                go_loopw [116] (fun i wq => ∃ k : Nat, k ≤ t.overs.length ∧ i = .int .i64 k ∧ Hid (MS w B b (.func (.func g) #[] cb) K bm (.cells #[.int .u8 t.kind, .int .i64 t.low, .int .i64 t.high, .bool t.branded, .string t.brand, .string t.opaq, .int .i64 t.super, .slice Ap t.parts.length cp, .slice Am t.methods.length cm, .slice Ao t.overs.length co] 42) ((((((l ++ Lib.itoa t.kind) ++ midTx t) ++ superTx num t) ++ t.parts.flatMap (partTx num)) ++ t.methods.flatMap (methodTx num)) ++ (t.overs.take k).flatMap overTx) wq)) (fun i _ => t.overs.length - (intOf i).toNat)
                case atStart => exact ⟨0, by omega, by simp, Lib.hid (by simpa using Hmr.out)⟩
                case round =>
                  clear Hmr
                  obtain ⟨k, hk, rfl, Hmr⟩ := hrel
                  by_cases hlt : k < t.overs.length
                  · obtain ⟨b1, o1, rfl, e0, e1⟩ := Hso.out k hlt
                    have hxr := Hbel.out _ Hmr.out.below
                    replace e0 := hxr.cell e0
                    replace e1 := hxr.cell e1
                    have hnn := Hon.out _ (List.getElem_mem hlt)
                    have htk := flat_take_le overTx t.overs k hlt
                    have Hfl := Lib.hid (flat_take_one overTx t.overs k hlt)
                    have hpt : overTx t.overs[k] = [32] ++ (t.overs[k]).name.data.toList ++ [61] ++ (t.overs[k]).proc.data.toList := rfl
                    generalize t.overs[k] = p at *
                    obtain ⟨hn1, hn2⟩ := hnn
                    have htk2 : ((t.overs.take k).flatMap overTx).length + (1 + p.name.size + 1 + p.proc.size) ≤ (t.overs.flatMap overTx).length := by
                      rw [hpt] at htk; simp at htk ⊢; omega
                    have Htk := Lib.hid htk2
                    have Hpe := Lib.hid hpt
                    have hc1 : ¬ 9223372036854775807 < 1 + p.name.size := by omega
                    have hc2 : ¬ 9223372036854775807 < 1 + p.name.size + 1 := by omega
                    have hc3 : ¬ 9223372036854775807 < 1 + p.name.size + 1 + p.proc.size := by omega
                    have Hin := Lib.hid (Hmr.out.inner (.cells #[.string p.name, .string p.proc] 117) (by rintro c f h; injection h with _ h _; cases h))
                    have HPS := Lib.hid (show ∀ l' w', MS wr B b (.func (.func g) #[] cb) (bm :: K) wr.heap.size (.cells #[.string p.name, .string p.proc] 117) l' w' → (w'.cell? ⟨wr.heap.size, 0, none⟩ = some (.string p.name) ∧ w'.cell? ⟨wr.heap.size, 1, none⟩ = some (.string p.proc) ∧ w'.cell? ⟨b, 2, none⟩ = some (.func (.func g) #[] cb)) from fun l' w' h => ⟨heap_cell h.box 0 _ rfl, heap_cell h.box 1 _ rfl, h.num⟩)
                    clear hxr hpt htk htk2
                    go_wp2_with fail
                    clear e0 e1
                    generalize wr.alloc (.cells #[.string p.name, .string p.proc] 117) = w1' at Hin ⊢
                    generalize wr.heap.size = pb at Hin HPS ⊢
                    have hm1 := Hin.out.later (Ext.refl _).drew
                    have Hm1 := Lib.hid hm1
                    clear hm1
                    go_region_held3 (fun w' => w'.cell? ⟨pb, 0, none⟩ = some (.string p.name) ∧ w'.cell? ⟨pb, 1, none⟩ = some (.string p.proc) ∧ w'.cell? ⟨b, 2, none⟩ = some (.func (.func g) #[] cb)) (first | exact HPS.out _ _ Hm1.out | exact HPS.out _ _ hm9) (((go_at_call 148; refine (writeString_any w1'.drew B b (.func (.func g) #[] cb) ((((((l ++ Lib.itoa t.kind) ++ midTx t) ++ superTx num t) ++ t.parts.flatMap (partTx num)) ++ t.methods.flatMap (methodTx num)) ++ (t.overs.take k).flatMap overTx) (pb :: bm :: K) _ Hm1.out.wr Hm1.out.le (by have a1 := Hln.out; have a2 := Hlens.out; have a3 := Htk.out; have e1 : (⟨#[32]⟩ : ByteArray).size = 1 := rfl; have e2 : (⟨#[58]⟩ : ByteArray).size = 1 := rfl; have e3 : (⟨#[61]⟩ : ByteArray).size = 1 := rfl; simp only [ba_app_size, List.length_append]; omega)).mono ?_; rintro e w9 ⟨rfl, hw9⟩; have hm9 := Hm1.out.write hw9)))
                    all_goals
                      have h9 := hm9
                      simp only [ba_app, ba_mk] at h9
                      rw [show (⟨#[32]⟩ : ByteArray).data.toList ++ p.name.data.toList ++ (⟨#[61]⟩ : ByteArray).data.toList ++ p.proc.data.toList = overTx p from Hpe.out.symm, List.append_assoc, ← Hfl.out] at h9
                      have H9 := Lib.hid (Hmr.out.back h9)
                      clear h9 hm9 hw9
                      go_wp2_with fail
                      go_roundw
                      case rel => exact ⟨k + 1, by omega, by go_num, H9⟩
                      case measure => simp [intOf]; omega
                  · obtain rfl : k = t.overs.length := by omega
                    rw [List.take_length] at Hmr
                    go_wp2_with fail
                    refine (writeString_any wr B b (.func (.func g) #[] cb) ((((((l ++ Lib.itoa t.kind) ++ midTx t) ++ superTx num t) ++ t.parts.flatMap (partTx num)) ++ t.methods.flatMap (methodTx num)) ++ t.overs.flatMap overTx) (bm :: K) ⟨#[10]⟩ Hmr.out.wr Hmr.out.le (by have a1 := Hln.out; have a2 := Hlens.out; have e1 : (⟨#[10]⟩ : ByteArray).size = 1 := rfl; simp only [List.length_append]; omega)).mono ?_
                    rintro e w9 ⟨rfl, hw9⟩
                    have hm9 := Hmr.out.write hw9
                    go_wp2_with fail
                    go_end0
                    have e9 : ((((((l ++ Lib.itoa t.kind) ++ midTx t) ++ superTx num t) ++ t.parts.flatMap (partTx num)) ++ t.methods.flatMap (methodTx num)) ++ t.overs.flatMap overTx) ++ (⟨#[10]⟩ : ByteArray).data.toList = l ++ TX := by rw [Hmd.out]; simp
                    rw [e9] at hm9
                    exact ⟨rfl, hm9.wr.sub (fun k hk => by simp [hk]), hm9.below, hm9.keep⟩
end Go.Proofs.YtldnjnnhfeobdaaGreatDoor
/- Contract: CheckApart. Conditions: lengths below 2^20. -/
namespace Go.Proofs.YtldnjnnhfeobdaaGreatDoor
set_option linter.all false
set_option linter.unusedSimpArgs false
set_option linter.unusedVariables false
open Go.RowKit Go.Shelf

/-- the way tells two types apart -/
def tellsI (g : Graph) : Nat → Nat → List Int → Bool
  | i, j, [] => !agN g i j
  | i, j, k :: w => agN g i j && (hasB (refsN g i).length k && tellsI g ((refsN g i).getD k.toNat 0) ((refsN g j).getD k.toNat 0) w)
def checkApartG (g : Graph) (a b : Int) (way : List Int) : Bool := if errG g [a, b] = 0 then tellsI g a.toNat b.toNat way else false
theorem refsN_length (g : Graph) (i : Nat) : (refsN g i).length = (refsL (getT g i)).length := by simp [refsN]
theorem refsL_nat {g : Graph} (h : WF g) {i : Nat} (hi : i < g.length) : refsL (getT g i) = (refsN g i).map fun (n : Nat) => (n : Int) := (refsN_cast h hi).symm

set_option maxRecDepth 100000 in
set_option maxHeartbeats 8000000 in
theorem checkApart_any (w : World) (gv v : Value) (g : Graph) (a b : Int) (way : List Int) (hg : Sl tyE w gv g) (hT : Tidy g) (hG : Glob w) (hv : Sl intE w v way) (hwn : way.length ≤ 1048576) :
    Calls Tryz.prog 17 #[gv, .int .i64 a, .int .i64 b, v] w (Ret w (.tuple #[.bool (checkApartG g a b way), .int .i64 (errG g [a, b])])) := by
  have hop := opened_any (w.alloc (.cells #[.int .i64 a, .int .i64 b] 3)) gv _ g [a, b] (hg.mono ((Ext.refl w).alloc _)) hT (hG.mono ((Ext.refl w).alloc _)) (lit_ints w [a, b] 2 rfl) (by simp)
  have hag := fun (w' : World) (hx : Ext w w') (i j : Nat) (hi : i < g.length) (hj : j < g.length) => agree_any w' gv g i j (hg.mono hx) hT hi hj
  have hls := fun (hW : WF g) (w' : World) (hx : Ext w w') (i : Nat) (hi : i < g.length) => list_any w' gv g i g.length (hg.mono hx) hi hT.len (hW.fine (getT_mem hi))
  have hn := hT.len
  obtain ⟨A, cap, rfl⟩ := hg.len
  obtain ⟨Aw, cw, rfl, hs⟩ := hv.int
  have Hs := Lib.hid hs
  clear hs
  unfold checkApartG
  by_cases h0 : errG g [a, b] = 0
  · rw [if_pos h0]
    rw [h0] at hop ⊢
    obtain ⟨hW, hab⟩ := errG_zero h0
    obtain ⟨a0, a1⟩ := hab a (by simp)
    obtain ⟨b0, b1⟩ := hab b (by simp)
    obtain ⟨i, rfl⟩ := Int.eq_ofNat_of_zero_le a0
    obtain ⟨j, rfl⟩ := Int.eq_ofNat_of_zero_le b0
    rw [Int.toNat_natCast, Int.toNat_natCast]
    have hls' : ∀ (w' : World) (hx : Ext w w') (i : Nat) (hi : i < g.length), Calls Tryz.prog 56 #[.agg #[.slice A g.length cap], .int .i64 i] w' (RetP w' (ResSl intE w' ((refsN g i).map fun (n : Nat) => (n : Int)))) := fun w' hx i hi => by
      have h := hls hW w' hx i hi
      rwa [refsL_nat hW hi] at h
    have hi : i < g.length := by omega
    have hj : j < g.length := by omega
    have Hop := Lib.hid hop
    have Hag := Lib.hid hag
    have Hls := Lib.hid hls'
    have HW := Lib.hid hW
    have Hrl := Lib.hid (fun (i : Nat) (hi : i < g.length) => (refsN_length g i).symm ▸ (hW.fine (getT_mem hi)).refs_le)
    clear hop hag hls hls' hg hv hG hT h0 hab hW a0 a1 b0 b1
    go_enter Tryz.func17, Tryz.ntmps17
    go_wp2_with fail
    refine Hop.out.mono ?_
    rintro e w1 ⟨rfl, hx1⟩
    have Hx1 := Lib.hid ((((Ext.refl w).alloc (.cells #[.int .i64 i, .int .i64 j] 3)).trans hx1).alloc (.cells #[.slice A g.length cap] 77))
    have Hbx := Lib.hid (show Boxed (w1.alloc (.cells #[.slice A g.length cap] 77)) w1.heap.size 77 (.slice A g.length cap) from heap_alloc_self _ _)
    clear hx1
    go_wp2_with fail
    generalize w1.alloc (.cells #[.slice A g.length cap] 77) = w2 at Hx1 Hbx ⊢
    generalize w1.heap.size = bx at Hbx ⊢
    go_loopw [1, 2, 29] (fun sa sb s wr => ∃ k p q : Nat, k ≤ way.length ∧ s = .int .i64 k ∧ p < g.length ∧ q < g.length ∧ sa = .int .i64 p ∧ sb = .int .i64 q ∧ Hid (Ext w wr) ∧ Hid (Boxed wr bx 77 (.slice A g.length cap)) ∧ Hid (tellsI g i j way = tellsI g p q (way.drop k))) (fun _ _ s _ => way.length - (intOf s).toNat)
    case atStart => exact ⟨0, i, j, by omega, by simp, hi, hj, rfl, rfl, Hx1, Hbx, rfl⟩
    case round =>
      clear Hx1 Hbx hi hj
      obtain ⟨k, p, q, hk, rfl, hp, hq, rfl, rfl, Hx, Hb, Ht⟩ := hrel
      by_cases hlt : k < way.length
      · obtain ⟨bw, ow, rfl, d0⟩ := Hs.out k hlt
        replace d0 := Hx.out.cell d0
        have cb := Hb.out.cell
        have l0 := cell_lt cb
        obtain ⟨wr', rfl⟩ : ∃ wq : World, wq = wr := ⟨_, rfl⟩
        have HS := Lib.hid (show ∀ w' : World, Ext wr' w' → w'.cell? ⟨bx, 0, none⟩ = some (.slice A g.length cap) from fun w' h => h.cell cb)
        have hd := List.drop_eq_getElem_cons hlt
        cases ha : agN g p q
        · have Ha := Lib.hid ha
          have Hres := Lib.hid (show tellsI g i j way = false by rw [Ht.out, hd, tellsI, ha]; rfl)
          clear ha hd
          have tok1 : True := trivial
          go_wp2_with fail
          go_region_held3 (fun w' => w'.cell? ⟨bx, 0, none⟩ = some (.slice A g.length cap)) (first | exact HS.out _ (Ext.refl _).drew | exact HS.out _ hxb | exact HS.out _ hxa) (first | (go_at_call 56; have _t := tok1; refine (Hls.out _ (Hx.out.trans (Ext.refl _).drew) p hp).mono ?_; clear tok1; rintro e wa ⟨va, rfl, hva, hxa0⟩; have hxa := (Ext.refl wr').drew.trans hxa0; obtain ⟨Aa, ca, ea⟩ := hva.any.len; rw [List.length_map] at ea; subst ea) | (go_at_call 56; refine (Hls.out _ (Hx.out.trans hxa) q hq).mono ?_; rintro e wb ⟨vb, rfl, hvb, hxb0⟩; have hxb := hxa.trans hxb0; obtain ⟨Ab, cbb, eb⟩ := hvb.any.len; rw [List.length_map] at eb; subst eb))
          all_goals
            have cb := HS.out _ hxb
            have l0 := cell_lt cb
            have Hxb := Lib.hid (Hx.out.trans hxb)
            have Hb2 := Lib.hid (Boxed.ext Hb.out hxb)
            have Hva := Lib.hid (hva.any.mono hxb0)
            have Hvb := Lib.hid hvb.any
            clear hva hvb hxa hxa0 hxb hxb0
            go_wp2_with fail
            refine (Hag.out _ Hxb.out p q hp hq).mono ?_
            rintro e wd ⟨rfl, hxd⟩
            rw [Ha.out]
            replace cb := hxd.cell cb
            have Hxd := Lib.hid (Hxb.out.trans hxd)
            have Hb3 := Lib.hid (Boxed.ext Hb2.out hxd)
            replace Hva := Lib.hid (Hva.out.mono hxd)
            replace Hvb := Lib.hid (Hvb.out.mono hxd)
            clear hxd
            have hrl : (refsN g p).length ≤ 65 := Hrl.out p hp
            go_wp2_with fail
            go_ret2
            exact ⟨by rw [Hres.out]; rfl, Hxd.out⟩
        · have Ha := Lib.hid ha
          cases hbb : hasB (refsN g p).length way[k]
          · have Hbb := Lib.hid hbb
            have Hres := Lib.hid (show tellsI g i j way = false by rw [Ht.out, hd, tellsI, ha, hbb]; rfl)
            clear ha hd hbb
            have tok1 : True := trivial
            go_wp2_with fail
            go_region_held3 (fun w' => w'.cell? ⟨bx, 0, none⟩ = some (.slice A g.length cap)) (first | exact HS.out _ (Ext.refl _).drew | exact HS.out _ hxb | exact HS.out _ hxa) (first | (go_at_call 56; have _t := tok1; refine (Hls.out _ (Hx.out.trans (Ext.refl _).drew) p hp).mono ?_; clear tok1; rintro e wa ⟨va, rfl, hva, hxa0⟩; have hxa := (Ext.refl wr').drew.trans hxa0; obtain ⟨Aa, ca, ea⟩ := hva.any.len; rw [List.length_map] at ea; subst ea) | (go_at_call 56; refine (Hls.out _ (Hx.out.trans hxa) q hq).mono ?_; rintro e wb ⟨vb, rfl, hvb, hxb0⟩; have hxb := hxa.trans hxb0; obtain ⟨Ab, cbb, eb⟩ := hvb.any.len; rw [List.length_map] at eb; subst eb))
            all_goals
              have cb := HS.out _ hxb
              have l0 := cell_lt cb
              have Hxb := Lib.hid (Hx.out.trans hxb)
              have Hb2 := Lib.hid (Boxed.ext Hb.out hxb)
              have Hva := Lib.hid (hva.any.mono hxb0)
              have Hvb := Lib.hid hvb.any
              clear hva hvb hxa hxa0 hxb hxb0
              go_wp2_with fail
              refine (Hag.out _ Hxb.out p q hp hq).mono ?_
              rintro e wd ⟨rfl, hxd⟩
              rw [Ha.out]
              replace cb := hxd.cell cb
              have Hxd := Lib.hid (Hxb.out.trans hxd)
              have Hb3 := Lib.hid (Boxed.ext Hb2.out hxd)
              replace Hva := Lib.hid (Hva.out.mono hxd)
              replace Hvb := Lib.hid (Hvb.out.mono hxd)
              clear hxd
              have hrl : (refsN g p).length ≤ 65 := Hrl.out p hp
              go_wp2_with fail
              refine (in_any _ _ _ _).mono ?_
              rintro e we ⟨rfl, rfl⟩
              rw [show inB way[k] 0 (((refsN g p).length : Int) - 1) = false from Hbb.out]
              go_wp2_with fail
              go_ret2
              exact ⟨by rw [Hres.out]; rfl, Hxd.out⟩
          · obtain ⟨m0, m1⟩ := hasB_iff.1 hbb
            have hrest : tellsI g i j way = tellsI g ((refsN g p).getD (way[k]).toNat 0) ((refsN g q).getD (way[k]).toNat 0) (way.drop (k + 1)) := by rw [Ht.out, hd, tellsI, ha, hbb]; rfl
            have hlen : (refsN g p).length = (refsN g q).length := by rw [refsN_length, refsN_length]; exact refsL_length ha
            obtain ⟨m, hm⟩ := Int.eq_ofNat_of_zero_le m0
            rw [hm] at d0 m1 hrest hbb
            rw [Int.toNat_natCast] at hrest
            have hrp := HW.out.abs.rng p hp _ (getD_mem (xs := refsN g p) (k := m) (by omega))
            have hrq := HW.out.abs.rng q hq _ (getD_mem (xs := refsN g q) (k := m) (by omega))
            have Hbb := Lib.hid hbb
            have Hrest := Lib.hid hrest
            have Hlen := Lib.hid hlen
            clear ha hd hbb hm hrest hlen m0
            have tok1 : True := trivial
            go_wp2_with fail
            go_region_held3 (fun w' => w'.cell? ⟨bx, 0, none⟩ = some (.slice A g.length cap)) (first | exact HS.out _ (Ext.refl _).drew | exact HS.out _ hxb | exact HS.out _ hxa) (first | (go_at_call 56; have _t := tok1; refine (Hls.out _ (Hx.out.trans (Ext.refl _).drew) p hp).mono ?_; clear tok1; rintro e wa ⟨va, rfl, hva, hxa0⟩; have hxa := (Ext.refl wr').drew.trans hxa0; obtain ⟨Aa, ca, ea⟩ := hva.any.len; rw [List.length_map] at ea; subst ea) | (go_at_call 56; refine (Hls.out _ (Hx.out.trans hxa) q hq).mono ?_; rintro e wb ⟨vb, rfl, hvb, hxb0⟩; have hxb := hxa.trans hxb0; obtain ⟨Ab, cbb, eb⟩ := hvb.any.len; rw [List.length_map] at eb; subst eb))
            all_goals
              have cb := HS.out _ hxb
              have l0 := cell_lt cb
              have Hxb := Lib.hid (Hx.out.trans hxb)
              have Hb2 := Lib.hid (Boxed.ext Hb.out hxb)
              have Hva := Lib.hid (hva.any.mono hxb0)
              have Hvb := Lib.hid hvb.any
              clear hva hvb hxa hxa0 hxb hxb0
              go_wp2_with fail
              refine (Hag.out _ Hxb.out p q hp hq).mono ?_
              rintro e wd ⟨rfl, hxd⟩
              rw [Ha.out]
              replace cb := hxd.cell cb
              have Hxd := Lib.hid (Hxb.out.trans hxd)
              have Hb3 := Lib.hid (Boxed.ext Hb2.out hxd)
              replace Hva := Lib.hid (Hva.out.mono hxd)
              replace Hvb := Lib.hid (Hvb.out.mono hxd)
              clear hxd
              have hrl : (refsN g p).length ≤ 65 := Hrl.out p hp
              go_wp2_with fail
              refine (in_any _ _ _ _).mono ?_
              rintro e we ⟨rfl, rfl⟩
              rw [show inB (m : Int) 0 (((refsN g p).length : Int) - 1) = true from Hbb.out]
              obtain ⟨Ap, cp, ep, hsp⟩ := Sl.nat Hva.out
              obtain ⟨Aq, cq, eq, hsq⟩ := Sl.nat Hvb.out
              simp only [Value.slice.injEq] at ep eq
              obtain ⟨rfl, _, rfl⟩ := ep
              obtain ⟨rfl, _, rfl⟩ := eq
              obtain ⟨b1, o1, rfl, e1⟩ := hsp m (by omega)
              obtain ⟨b2, o2, rfl, e2⟩ := hsq m (by rw [← Hlen.out]; omega)
              have m2 : (0 : Int) ≤ (m : Int) := by omega
              have m3 : (m : Int) < ((refsN g q).length : Int) := by rw [← Hlen.out]; exact m1
              clear hsp hsq
              go_wp2_with fail
              go_quiet (fail)
              go_wp2_with fail
              go_roundw
              case rel => exact ⟨k + 1, _, _, by omega, by go_num, hrp, hrq, rfl, rfl, Hxd.out.drewN _, Boxed.ext Hb3.out ((Ext.refl _).drewN _), Hrest⟩
              case measure => simp [intOf]; omega
      · have hk' : k = way.length := by omega
        have hres : tellsI g i j way = !agN g p q := by rw [Ht.out, hk', List.drop_length, tellsI]
        have Hres := Lib.hid hres
        have cb := Hb.out.cell
        have l0 := cell_lt cb
        have Hag' := Lib.hid (Hag.out _ Hx.out p q hp hq)
        generalize agN g p q = r at Hag' Hres
        clear hres hk'
        go_wp2_with fail
        refine Hag'.out.mono ?_
        rintro e wd ⟨rfl, hxd⟩
        go_wp2_with fail
        go_ret2
        exact ⟨by rw [Hres.out]; rfl, Hx.out.trans hxd⟩
  · rw [if_neg h0]
    have hne : (errG g [a, b] != 0) = true := by simpa using h0
    generalize errG g [a, b] = er at hop hne ⊢
    have Hop := Lib.hid hop
    clear hop hag hls hg hv hG hT h0
    go_enter Tryz.func17, Tryz.ntmps17
    go_wp2_with fail
    refine Hop.out.mono ?_
    rintro e w1 ⟨rfl, hx1⟩
    go_wp2_with fail
    go_ret2
    exact ⟨rfl, (((Ext.refl w).alloc _).trans hx1).alloc _⟩
end Go.Proofs.YtldnjnnhfeobdaaGreatDoor
/- Plain theory: a text of words and numerals is read in one way. No program. No condition. -/
namespace Go.Proofs.YtldnjnnhfeobdaaGreatDoor
set_option linter.all false
set_option linter.unusedSimpArgs false
set_option linter.unusedVariables false

def decVal (l : List UInt8) : Nat := l.foldl (fun h c => 10 * h + (c.toNat - 48)) 0
theorem decVal_snoc (l : List UInt8) (c : UInt8) : decVal (l ++ [c]) = 10 * decVal l + (c.toNat - 48) := by simp [decVal]
theorem digit_toNat {k : Nat} (h : k < 10) : (UInt8.ofNat (48 + k)).toNat = 48 + k := by
  rw [UInt8.toNat_ofNat']; omega
theorem decVal_dec (u : Nat) : decVal (Lib.decDigits u) = u := by
  induction u using Nat.strongRecOn with
  | _ u ih =>
    by_cases h : u < 10
    · rw [Lib.decDigits_one h]
      show 10 * 0 + ((UInt8.ofNat (48 + u)).toNat - 48) = u
      rw [digit_toNat h]; omega
    · rw [Lib.decDigits, dif_neg h, decVal_snoc, ih (u / 10) (by omega), digit_toNat (by omega)]
      omega
def digC (c : UInt8) : Bool := decide (48 ≤ c.toNat ∧ c.toNat ≤ 57)
def numC (c : UInt8) : Bool := digC c || c == 45
def nameC (c : UInt8) : Bool := !notNameB (c.toNat : Int)
def symC (c : UInt8) : Bool := nameC c || c == 46
def brandC (c : UInt8) : Bool := !(c == 34)
theorem dec_digits (u : Nat) : ∀ c ∈ Lib.decDigits u, digC c = true := by
  induction u using Nat.strongRecOn with
  | _ u ih =>
    intro c hc
    by_cases h : u < 10
    · rw [Lib.decDigits_one h] at hc
      simp only [List.mem_singleton] at hc
      subst hc
      unfold digC
      rw [digit_toNat h]; simp; omega
    · rw [Lib.decDigits, dif_neg h] at hc
      rcases List.mem_append.1 hc with hc | hc
      · exact ih (u / 10) (by omega) c hc
      · simp only [List.mem_singleton] at hc
        subst hc
        unfold digC
        rw [digit_toNat (by omega)]; simp; omega
theorem dec_ne (u : Nat) : Lib.decDigits u ≠ [] := by
  intro h
  have := Lib.decDigits_length u
  rw [h] at this
  have := Lib.nDigits_pos u
  simp at *
  omega
theorem itoa_num (a : Int) : ∀ c ∈ Lib.itoa a, numC c = true := by
  intro c hc
  unfold Lib.itoa at hc
  split at hc
  · rcases List.mem_cons.1 hc with rfl | hc
    · rfl
    · simp [numC, dec_digits _ c hc]
  · simp [numC, dec_digits _ c hc]
theorem itoa_ne (a : Int) : Lib.itoa a ≠ [] := by
  unfold Lib.itoa
  split
  · simp
  · exact dec_ne _
theorem itoa_digits {a : Int} (h : 0 ≤ a) : ∀ c ∈ Lib.itoa a, digC c = true := by
  intro c hc
  unfold Lib.itoa at hc
  rw [if_neg (by omega)] at hc
  exact dec_digits _ c hc
theorem itoa_inj {a b : Int} (h : Lib.itoa a = Lib.itoa b) : a = b := by
  have key : ∀ u v : Nat, 45 :: Lib.decDigits u ≠ Lib.decDigits v := by
    intro u v e
    have := dec_digits v 45 (by rw [← e]; simp)
    exact absurd this (by decide)
  unfold Lib.itoa at h
  by_cases ha : a < 0 <;> by_cases hb : b < 0
  · rw [if_pos ha, if_pos hb] at h
    injection h with _ h
    have h1 := congrArg decVal h
    rw [decVal_dec, decVal_dec] at h1
    omega
  · rw [if_pos ha, if_neg hb] at h
    exact absurd h (key _ _)
  · rw [if_neg ha, if_pos hb] at h
    exact absurd h.symm (key _ _)
  · rw [if_neg ha, if_neg hb] at h
    have h1 := congrArg decVal h
    rw [decVal_dec, decVal_dec] at h1
    omega

/-- r goes on with a sign that is no P -/
def Ends (P : UInt8 → Bool) (r : List UInt8) : Prop := ∃ d s, r = d :: s ∧ P d = false
theorem cut_eq {P : UInt8 → Bool} : ∀ {l1 l2 r1 r2 : List UInt8}, (∀ c ∈ l1, P c = true) → (∀ c ∈ l2, P c = true) → Ends P r1 → Ends P r2 → l1 ++ r1 = l2 ++ r2 → l1 = l2 ∧ r1 = r2
  | [], [], r1, r2, _, _, _, _, h => ⟨rfl, h⟩
  | [], c :: l2, r1, r2, _, h2, h3, _, h => by
    obtain ⟨d, s, rfl, hd⟩ := h3
    injection h with e _
    have := h2 c (by simp)
    rw [← e, hd] at this
    cases this
  | c :: l1, [], r1, r2, h1, _, _, h4, h => by
    obtain ⟨d, s, rfl, hd⟩ := h4
    injection h with e _
    have := h1 c (by simp)
    rw [e, hd] at this
    cases this
  | c :: l1, c' :: l2, r1, r2, h1, h2, h3, h4, h => by
    injection h with e h
    subst e
    obtain ⟨e1, e2⟩ := cut_eq (fun c hc => h1 c (by simp [hc])) (fun c hc => h2 c (by simp [hc])) h3 h4 h
    exact ⟨by rw [e1], e2⟩
/-- r goes on with a blank, or with the end of the line -/
def Brk (r : List UInt8) : Prop := ∃ d s, r = d :: s ∧ (d = 32 ∨ d = 10)
theorem Brk.ends {r : List UInt8} (h : Brk r) {P : UInt8 → Bool} (h1 : P 32 = false) (h2 : P 10 = false) : Ends P r := by
  obtain ⟨d, s, e, rfl | rfl⟩ := h
  · exact ⟨32, s, e, h1⟩
  · exact ⟨10, s, e, h2⟩

theorem joinTail_more (sep x : List UInt8) (r : List (List UInt8)) : Lib.joinTail sep (x :: r) = sep ++ (x ++ Lib.joinTail sep r) := by simp [Lib.joinTail]
theorem joinTail_none (sep : List UInt8) : Lib.joinTail sep [] = [] := rfl
/-- r goes on with a sign that is no P and no comma -/
def Ends2 (P : UInt8 → Bool) (r : List UInt8) : Prop := ∃ d s, r = d :: s ∧ P d = false ∧ d ≠ 44
theorem Ends2.one {P : UInt8 → Bool} {r : List UInt8} (h : Ends2 P r) : Ends P r := by
  obtain ⟨d, s, e, h1, _⟩ := h; exact ⟨d, s, e, h1⟩
theorem joinTail_ends {P : UInt8 → Bool} (h44 : P 44 = false) (r : List (List UInt8)) {s : List UInt8} (h : Ends2 P s) : Ends P (Lib.joinTail [44] r ++ s) := by
  cases r with
  | nil => exact h.one
  | cons x r => rw [joinTail_more]; exact ⟨44, _, rfl, h44⟩
theorem joinTail_cut {P : UInt8 → Bool} (h44 : P 44 = false) : ∀ {r r' : List (List UInt8)} {s s' : List UInt8}, (∀ x ∈ r, ∀ c ∈ x, P c = true) → (∀ x ∈ r', ∀ c ∈ x, P c = true) → Ends2 P s → Ends2 P s' →
    Lib.joinTail [44] r ++ s = Lib.joinTail [44] r' ++ s' → r = r' ∧ s = s'
  | [], [], s, s', _, _, _, _, h => ⟨rfl, h⟩
  | [], x :: r', s, s', _, _, h3, _, h => by
    obtain ⟨d, t, rfl, _, hd⟩ := h3
    rw [joinTail_more] at h
    injection h with e _
    exact absurd e hd
  | x :: r, [], s, s', _, _, _, h4, h => by
    obtain ⟨d, t, rfl, _, hd⟩ := h4
    rw [joinTail_more] at h
    injection h with e _
    exact absurd e.symm hd
  | x :: r, x' :: r', s, s', h1, h2, h3, h4, h => by
    rw [joinTail_more, joinTail_more] at h
    simp only [List.cons_append, List.nil_append, List.append_assoc] at h
    injection h with _ h
    obtain ⟨e1, e2⟩ := cut_eq (h1 x (by simp)) (h2 x' (by simp)) (joinTail_ends h44 r h3) (joinTail_ends h44 r' h4) h
    obtain ⟨e3, e4⟩ := joinTail_cut h44 (fun y hy => h1 y (by simp [hy])) (fun y hy => h2 y (by simp [hy])) h3 h4 e2
    exact ⟨by rw [e1, e3], e4⟩
theorem join_cut {P : UInt8 → Bool} (h44 : P 44 = false) {l l' : List (List UInt8)} {s s' : List UInt8} (h1 : ∀ x ∈ l, x ≠ [] ∧ ∀ c ∈ x, P c = true) (h2 : ∀ x ∈ l', x ≠ [] ∧ ∀ c ∈ x, P c = true) (h3 : Ends2 P s) (h4 : Ends2 P s')
    (h : Lib.join l [44] ++ s = Lib.join l' [44] ++ s') : l = l' ∧ s = s' := by
  cases l with
  | nil =>
    cases l' with
    | nil => exact ⟨rfl, h⟩
    | cons x r =>
      obtain ⟨d, t, rfl, hd, _⟩ := h3
      rw [Lib.join_cons] at h
      obtain ⟨hx, hp⟩ := h2 x (by simp)
      cases x with
      | nil => exact absurd rfl hx
      | cons c x =>
        injection h with e _
        have := hp c (by simp)
        rw [← e, hd] at this
        cases this
  | cons x r =>
    cases l' with
    | nil =>
      obtain ⟨d, t, rfl, hd, _⟩ := h4
      rw [Lib.join_cons] at h
      obtain ⟨hx, hp⟩ := h1 x (by simp)
      cases x with
      | nil => exact absurd rfl hx
      | cons c x =>
        injection h with e _
        have := hp c (by simp)
        rw [e, hd] at this
        cases this
    | cons x' r' =>
      rw [Lib.join_cons, Lib.join_cons, List.append_assoc, List.append_assoc] at h
      obtain ⟨e1, e2⟩ := cut_eq (h1 x (by simp)).2 (h2 x' (by simp)).2 (joinTail_ends h44 r h3) (joinTail_ends h44 r' h4) h
      obtain ⟨e3, e4⟩ := joinTail_cut h44 (fun y hy => (h1 y (by simp [hy])).2) (fun y hy => (h2 y (by simp [hy])).2) h3 h4 e2
      exact ⟨by rw [e1, e3], e4⟩

/-! ### the entries of a line -/
inductive Ent
  | part (n r : List UInt8)
  | meth (n : List UInt8) (args : List (List UInt8)) (res : List UInt8) (raises : List (List UInt8)) (proc : List UInt8)
  | over (n p : List UInt8)
def raisesE (l : List (List UInt8)) : List UInt8 := if l = [] then [] else 33 :: Lib.join l [44]
def procE (p : List UInt8) : List UInt8 := if p = [] then [] else 61 :: p
def entTx : Ent → List UInt8
  | .part n r => 32 :: (n ++ 58 :: r)
  | .meth n args res raises proc => 32 :: (n ++ 40 :: (Lib.join args [44] ++ 41 :: (res ++ (raisesE raises ++ procE proc))))
  | .over n p => 32 :: (n ++ 61 :: p)
def AllC (P : UInt8 → Bool) (l : List UInt8) : Prop := ∀ c ∈ l, P c = true
def EntOk : Ent → Prop
  | .part n r => AllC nameC n ∧ AllC digC r
  | .meth n args res raises proc => AllC nameC n ∧ (∀ x ∈ args, x ≠ [] ∧ AllC digC x) ∧ AllC numC res ∧ (∀ x ∈ raises, x ≠ [] ∧ AllC symC x) ∧ AllC symC proc
  | .over n p => AllC nameC n ∧ AllC symC p
theorem entTx_head (e : Ent) : ∃ s, entTx e = 32 :: s := by cases e <;> exact ⟨_, rfl⟩
theorem ents_brk (es : List Ent) (r : List UInt8) : Brk (es.flatMap entTx ++ 10 :: r) := by
  cases es with
  | nil => exact ⟨10, r, rfl, .inr rfl⟩
  | cons e es =>
    obtain ⟨s, hs⟩ := entTx_head e
    exact ⟨32, s ++ (es.flatMap entTx ++ 10 :: r), by rw [List.flatMap_cons, hs]; simp, .inl rfl⟩
theorem procE_cut {p p' r r' : List UInt8} (h1 : AllC symC p) (h2 : AllC symC p') (h3 : Brk r) (h4 : Brk r') (h : procE p ++ r = procE p' ++ r') : p = p' ∧ r = r' := by
  unfold procE at h
  by_cases e1 : p = [] <;> by_cases e2 : p' = []
  · rw [if_pos e1, if_pos e2] at h
    exact ⟨by rw [e1, e2], h⟩
  · rw [if_pos e1, if_neg e2] at h
    obtain ⟨d, s, rfl, hd⟩ := h3
    injection h with e _
    rcases hd with rfl | rfl <;> exact absurd e (by decide)
  · rw [if_neg e1, if_pos e2] at h
    obtain ⟨d, s, rfl, hd⟩ := h4
    injection h with e _
    rcases hd with rfl | rfl <;> exact absurd e (by decide)
  · rw [if_neg e1, if_neg e2] at h
    injection h with _ h
    exact cut_eq h1 h2 (h3.ends rfl rfl) (h4.ends rfl rfl) h
theorem procE_ends2 {p r : List UInt8} (h3 : Brk r) : Ends2 symC (procE p ++ r) := by
  unfold procE
  split
  · obtain ⟨d, s, rfl, rfl | rfl⟩ := h3
    · exact ⟨32, s, rfl, rfl, by decide⟩
    · exact ⟨10, s, rfl, rfl, by decide⟩
  · exact ⟨61, _, rfl, rfl, by decide⟩
theorem raisesE_cut {l l' : List (List UInt8)} {p p' r r' : List UInt8} (h1 : ∀ x ∈ l, x ≠ [] ∧ AllC symC x) (h2 : ∀ x ∈ l', x ≠ [] ∧ AllC symC x) (hr : Brk r) (hr' : Brk r')
    (h : raisesE l ++ (procE p ++ r) = raisesE l' ++ (procE p' ++ r')) : l = l' ∧ procE p ++ r = procE p' ++ r' := by
  have key : ∀ (p r : List UInt8), Brk r → ∀ s, procE p ++ r ≠ 33 :: s := by
    intro p r hr s e
    unfold procE at e
    split at e
    · obtain ⟨d, t, rfl, rfl | rfl⟩ := hr <;> (injection e with e _; exact absurd e (by decide))
    · injection e with e _; exact absurd e (by decide)
  unfold raisesE at h
  by_cases e1 : l = [] <;> by_cases e2 : l' = []
  · rw [if_pos e1, if_pos e2] at h
    exact ⟨by rw [e1, e2], h⟩
  · rw [if_pos e1, if_neg e2] at h
    exact absurd h (key p r hr _)
  · rw [if_neg e1, if_pos e2] at h
    exact absurd h.symm (key p' r' hr' _)
  · rw [if_neg e1, if_neg e2] at h
    injection h with _ h
    exact join_cut rfl h1 h2 (procE_ends2 hr) (procE_ends2 hr') h
theorem res_ends {l : List (List UInt8)} {p r : List UInt8} (hr : Brk r) : Ends numC (raisesE l ++ (procE p ++ r)) := by
  unfold raisesE
  split
  · unfold procE
    split
    · exact hr.ends rfl rfl
    · exact ⟨61, _, rfl, rfl⟩
  · exact ⟨33, _, rfl, rfl⟩
theorem ents_cut : ∀ {es es' : List Ent} {r r' : List UInt8}, (∀ e ∈ es, EntOk e) → (∀ e ∈ es', EntOk e) → es.flatMap entTx ++ 10 :: r = es'.flatMap entTx ++ 10 :: r' → es = es' ∧ r = r'
  | [], [], r, r', _, _, h => by
    injection h with _ h
    exact ⟨rfl, h⟩
  | [], e :: es', r, r', _, _, h => by
    obtain ⟨s, hs⟩ := entTx_head e
    rw [List.flatMap_cons, hs] at h
    injection h with e _
    exact absurd e (by decide)
  | e :: es, [], r, r', _, _, h => by
    obtain ⟨s, hs⟩ := entTx_head e
    rw [List.flatMap_cons, hs] at h
    injection h with e _
    exact absurd e (by decide)
  | e :: es, e' :: es', r, r', h1, h2, h => by
    have ih := fun r r' => ents_cut (es := es) (es' := es') (r := r) (r' := r') (fun e he => h1 e (by simp [he])) (fun e he => h2 e (by simp [he]))
    have b1 := ents_brk es r
    have b2 := ents_brk es' r'
    have o1 := h1 e (by simp)
    have o2 := h2 e' (by simp)
    rw [List.flatMap_cons, List.flatMap_cons, List.append_assoc, List.append_assoc] at h
    have no : ∀ {n n' s s' : List UInt8} {d d' : UInt8}, AllC nameC n → AllC nameC n' → nameC d = false → nameC d' = false → n ++ d :: s = n' ++ d' :: s' → n = n' ∧ d = d' ∧ s = s' := by
      intro n n' s s' d d' g1 g2 g3 g4 g
      obtain ⟨e1, e2⟩ := cut_eq g1 g2 ⟨d, s, rfl, g3⟩ ⟨d', s', rfl, g4⟩ g
      injection e2 with e2 e3
      exact ⟨e1, e2, e3⟩
    cases e with
    | part n x =>
      cases e' with
      | part n' x' =>
        simp only [entTx, List.cons_append, List.append_assoc] at h
        injection h with _ h
        obtain ⟨e1, _, h1⟩ := no o1.1 o2.1 rfl rfl h
        obtain ⟨e2, h2⟩ := cut_eq o1.2 o2.2 (b1.ends rfl rfl) (b2.ends rfl rfl) h1
        obtain ⟨e3, h3⟩ := ih _ _ h2
        exact ⟨by rw [e1, e2, e3], h3⟩
      | meth n' a' s' t' p' =>
        simp only [entTx, List.cons_append, List.append_assoc] at h
        injection h with _ h
        obtain ⟨_, h, _⟩ := no o1.1 o2.1 rfl rfl h
        exact absurd h (by decide)
      | over n' p' =>
        simp only [entTx, List.cons_append, List.append_assoc] at h
        injection h with _ h
        obtain ⟨_, h, _⟩ := no o1.1 o2.1 rfl rfl h
        exact absurd h (by decide)
    | meth n a s t p =>
      cases e' with
      | part n' x' =>
        simp only [entTx, List.cons_append, List.append_assoc] at h
        injection h with _ h
        obtain ⟨_, h, _⟩ := no o1.1 o2.1 rfl rfl h
        exact absurd h (by decide)
      | meth n' a' s' t' p' =>
        simp only [entTx, List.cons_append, List.append_assoc] at h
        injection h with _ h
        obtain ⟨e1, _, h1⟩ := no o1.1 o2.1 rfl rfl h
        obtain ⟨e2, h2⟩ := join_cut (P := digC) rfl o1.2.1 o2.2.1 ⟨41, _, rfl, rfl, by decide⟩ ⟨41, _, rfl, rfl, by decide⟩ h1
        injection h2 with _ h3
        obtain ⟨e3, h4⟩ := cut_eq o1.2.2.1 o2.2.2.1 (res_ends b1) (res_ends b2) h3
        obtain ⟨e4, h5⟩ := raisesE_cut o1.2.2.2.1 o2.2.2.2.1 b1 b2 h4
        obtain ⟨e5, h6⟩ := procE_cut o1.2.2.2.2 o2.2.2.2.2 b1 b2 h5
        obtain ⟨e6, h7⟩ := ih _ _ h6
        exact ⟨by rw [e1, e2, e3, e4, e5, e6], h7⟩
      | over n' p' =>
        simp only [entTx, List.cons_append, List.append_assoc] at h
        injection h with _ h
        obtain ⟨_, h, _⟩ := no o1.1 o2.1 rfl rfl h
        exact absurd h (by decide)
    | over n p =>
      cases e' with
      | part n' x' =>
        simp only [entTx, List.cons_append, List.append_assoc] at h
        injection h with _ h
        obtain ⟨_, h, _⟩ := no o1.1 o2.1 rfl rfl h
        exact absurd h (by decide)
      | meth n' a' s' t' p' =>
        simp only [entTx, List.cons_append, List.append_assoc] at h
        injection h with _ h
        obtain ⟨_, h, _⟩ := no o1.1 o2.1 rfl rfl h
        exact absurd h (by decide)
      | over n' p' =>
        simp only [entTx, List.cons_append, List.append_assoc] at h
        injection h with _ h
        obtain ⟨e1, _, h1⟩ := no o1.1 o2.1 rfl rfl h
        obtain ⟨e2, h2⟩ := cut_eq o1.2 o2.2 (b1.ends rfl rfl) (b2.ends rfl rfl) h1
        obtain ⟨e3, h3⟩ := ih _ _ h2
        exact ⟨by rw [e1, e2, e3], h3⟩
end Go.Proofs.YtldnjnnhfeobdaaGreatDoor
/- Plain theory: the text of a type: graphs that run beside each other have the same texts. No program. No condition. -/
namespace Go.Proofs.YtldnjnnhfeobdaaGreatDoor
set_option linter.all false
set_option linter.unusedSimpArgs false
set_option linter.unusedVariables false

def clsG (g : Graph) (i : Nat) : Nat := (classesG g).getD i 0
def reachG (g : Graph) (a : Nat) : List Nat := reachN (clsG g) (refsN g) (g.length + 1) 0 [a]
def numB (cls : Nat → Nat) (out : List Nat) (r : Int) : ByteArray := ⟨(Lib.itoa (posN cls (cls r.toNat) out : Nat)).toArray⟩
def textG (g : Graph) (a : Nat) : List UInt8 := (reachG g a).flatMap fun i => lineTx (numB (clsG g) (reachG g a)) (getT g i)

theorem clsG_lt {g : Graph} (h : WF g) {i : Nat} (hi : i < g.length) : clsG g i < g.length := by
  have := (classesN_facts h.abs).1.le i hi
  show (classesN (agN g) (refsN g) g.length).getD i 0 < g.length
  omega
theorem clsG_idem {g : Graph} (h : WF g) {i : Nat} (hi : i < g.length) : clsG g (clsG g i) = clsG g i := (classesN_facts h.abs).1.idem i hi
theorem reachG_inv {g : Graph} (h : WF g) {a : Nat} (ha : a < g.length) : RInv g.length (clsG g) (refsN g) a (reachG g a).length (reachG g a) :=
  reachN_inv (fun i hi => clsG_lt h hi) h.abs.rng _ _ _ (RInv.init ha) (by omega)

/-! ### a line depends on what agrees, and on the numbers of the references -/
theorem ba_ext {a b : ByteArray} (h : a.data.toList = b.data.toList) : a = b := by
  cases a with | mk x => cases b with | mk y => simp at h; rw [h]
theorem eqF_strEq : ∀ {xs ys : List ByteArray}, eqF strEq xs ys = true → xs = ys
  | [], [], _ => rfl
  | [], y :: ys, h => by simp [eqF] at h
  | x :: xs, [], h => by simp [eqF] at h
  | x :: xs, y :: ys, h => by
    simp only [eqF, Bool.and_eq_true] at h
    rw [strEq_iff.1 h.1, eqF_strEq h.2]
theorem eqF_over : ∀ {xs ys : List Over}, eqF overEq xs ys = true → xs.flatMap overTx = ys.flatMap overTx
  | [], [], _ => rfl
  | [], y :: ys, h => by simp [eqF] at h
  | x :: xs, [], h => by simp [eqF] at h
  | x :: xs, y :: ys, h => by
    simp only [eqF, Bool.and_eq_true, overEq_eq] at h
    rw [List.flatMap_cons, List.flatMap_cons, eqF_over h.2]
    unfold overTx
    rw [strEq_iff.1 h.1.1, strEq_iff.1 h.1.2]
section
variable {num num' : Int → ByteArray}
theorem eqF_part : ∀ {xs ys : List Part}, eqF partEq xs ys = true → (xs.map Part.type).map num = (ys.map Part.type).map num' → xs.flatMap (partTx num) = ys.flatMap (partTx num')
  | [], [], _, _ => rfl
  | [], y :: ys, h, _ => by simp [eqF] at h
  | x :: xs, [], h, _ => by simp [eqF] at h
  | x :: xs, y :: ys, h, h2 => by
    simp only [eqF, Bool.and_eq_true, partEq_eq] at h
    simp only [List.map_cons, List.cons.injEq] at h2
    rw [List.flatMap_cons, List.flatMap_cons, eqF_part h.2 h2.2]
    unfold partTx
    rw [strEq_iff.1 h.1, h2.1]
theorem meth_congr {a b : Method} (h : sameMethodB a b = true) (h2 : (refsM a).map num = (refsM b).map num') : methodTx num a = methodTx num' b := by
  obtain ⟨e1, e2, e3, e4, e5⟩ := sameMethodB_iff.1 h
  have e6 : (a.result < 0) ↔ (b.result < 0) := by simpa using e4
  unfold refsM at h2
  rw [List.map_append, List.map_append] at h2
  obtain ⟨h3, h4⟩ := List.append_inj h2 (by rw [List.length_map, List.length_map]; exact e3)
  have h5 : resultTx num a.result = resultTx num' b.result := by
    unfold resultTx
    by_cases h6 : a.result < 0
    · rw [if_pos h6, if_pos (e6.1 h6)]
    · have h7 : ¬ b.result < 0 := fun h => h6 (e6.2 h)
      rw [if_neg h6, if_neg h7]
      rw [if_pos (by omega), if_pos (by omega)] at h4
      simp at h4
      rw [h4]
  unfold methodTx
  rw [e1, e2, h3, h5, eqF_strEq e5]
theorem eqF_meth : ∀ {xs ys : List Method}, eqF sameMethodB xs ys = true → (xs.flatMap refsM).map num = (ys.flatMap refsM).map num' → xs.flatMap (methodTx num) = ys.flatMap (methodTx num')
  | [], [], _, _ => rfl
  | [], y :: ys, h, _ => by simp [eqF] at h
  | x :: xs, [], h, _ => by simp [eqF] at h
  | x :: xs, y :: ys, h, h2 => by
    simp only [eqF, Bool.and_eq_true] at h
    rw [List.flatMap_cons, List.flatMap_cons, List.map_append, List.map_append] at h2
    obtain ⟨h3, h4⟩ := List.append_inj h2 (by rw [List.length_map, List.length_map]; exact refsM_length h.1)
    rw [List.flatMap_cons, List.flatMap_cons, eqF_meth h.2 h4, meth_congr h.1 h3]
theorem line_congr {s t : Ty} (h : agreeT s t = true) (h2 : (refsL s).map num = (refsL t).map num') : lineTx num s = lineTx num' t := by
  obtain ⟨h3, h4, h5, h6⟩ := agreeT_iff.1 h
  obtain ⟨p1, p2, p3, p4, p5, p6⟩ := plainEqB_iff.1 h3
  unfold refsL at h2
  rw [List.map_append, List.map_append, List.map_append, List.map_append] at h2
  have e1 : (refsS s).length = (refsS t).length := by unfold refsS; rw [p1]; cases hasSuperB t.kind <;> rfl
  obtain ⟨q1, q2⟩ := List.append_inj h2 (by rw [List.length_map, List.length_map]; exact e1)
  obtain ⟨q3, q4⟩ := List.append_inj q2 (by simp only [List.length_map]; exact eqF_length h4)
  have h7 : superTx num s = superTx num' t := by
    unfold superTx
    unfold refsS at q1
    rw [p1] at q1 ⊢
    cases hs : hasSuperB t.kind with
    | false => rfl
    | true => rw [hs] at q1; simp at q1; simp [q1]
  have h8 : midTx s = midTx t := by unfold midTx; rw [p1, p2, p3, p4, p5, p6]
  unfold lineTx
  rw [p1, h7, h8, eqF_part h4 q3, eqF_meth h5 q4, eqF_over h6]
end

/-! ### graphs beside each other -/
structure Beside (g h : Graph) (R : Nat → Nat → Prop) : Prop where
  rng : ∀ i j, R i j → i < g.length ∧ j < h.length
  ag : ∀ i j, R i j → agreeT (getT g i) (getT h j) = true
  rf : ∀ i j, R i j → All2 R (refsN g i) (refsN h j)
theorem All2.flip {R : Nat → Nat → Prop} {xs ys : List Nat} (h : All2 R xs ys) : All2 (fun i j => R j i) ys xs := by
  induction h with
  | nil => exact .nil
  | cons h t ih => exact .cons h ih
theorem All2.mono {R S : Nat → Nat → Prop} {xs ys : List Nat} (h : All2 R xs ys) (hs : ∀ i j, R i j → S i j) : All2 S xs ys := by
  induction h with
  | nil => exact .nil
  | cons h t ih => exact .cons (hs _ _ h) ih
theorem Beside.flip {g h : Graph} {R : Nat → Nat → Prop} (B : Beside g h R) : Beside h g (fun i j => R j i) :=
  ⟨fun i j hr => ⟨(B.rng j i hr).2, (B.rng j i hr).1⟩, fun i j hr => byF_agree.symm _ _ (B.ag j i hr), fun i j hr => (B.rf j i hr).flip⟩
theorem All2.three {R T S : Nat → Nat → Prop} {xs ys xs' ys' : List Nat} (h1 : All2 R xs ys) (h2 : All2 R xs' ys') (h3 : All2 T xs xs') (h : ∀ x y x' y', R x y → R x' y' → T x x' → S y y') : All2 S ys ys' := by
  induction h1 generalizing xs' ys' with
  | nil =>
    cases h3
    cases h2
    exact .nil
  | cons a t ih =>
    cases h3 with
    | cons b u =>
      cases h2 with
      | cons c v => exact .cons (h _ _ _ _ a c b) (ih v u)
theorem beside_cls1 {g h : Graph} (hg : WF g) (hh : WF h) {R : Nat → Nat → Prop} (B : Beside g h R) {i j i' j' : Nat} (h1 : R i j) (h2 : R i' j') (he : clsG g i = clsG g i') : clsG h j = clsG h j' := by
  have hb := sameN_bisim hg.abs
  refine sameN_of_bisim hh.abs (R := fun j j' => ∃ i i', R i j ∧ R i' j' ∧ clsG g i = clsG g i') ⟨?_, ?_⟩ (B.rng _ _ h1).2 (B.rng _ _ h2).2 ⟨i, i', h1, h2, he⟩
  · rintro j j' hj hj' ⟨i, i', h1, h2, he⟩
    have e1 := hb.ag i i' (B.rng _ _ h1).1 (B.rng _ _ h2).1 he
    exact byF_agree.trans _ _ _ (byF_agree.symm _ _ (B.ag _ _ h1)) (byF_agree.trans _ _ _ e1 (B.ag _ _ h2))
  · rintro j j' hj hj' ⟨i, i', h1, h2, he⟩
    have e1 := hb.rf i i' (B.rng _ _ h1).1 (B.rng _ _ h2).1 he
    exact (B.rf _ _ h1).three (B.rf _ _ h2) e1 fun x y x' y' a b c => ⟨x, x', a, b, c⟩
theorem beside_cls {g h : Graph} (hg : WF g) (hh : WF h) {R : Nat → Nat → Prop} (B : Beside g h R) (i j i' j' : Nat) (h1 : R i j) (h2 : R i' j') : clsG g i = clsG g i' ↔ clsG h j = clsG h j' :=
  ⟨beside_cls1 hg hh B h1 h2, beside_cls1 hh hg B.flip h1 h2⟩
theorem reach_beside {g h : Graph} (hg : WF g) (hh : WF h) {R : Nat → Nat → Prop} (B : Beside g h R) {a b : Nat} (hab : R a b) : All2 R (reachG g a) (reachG h b) := by
  obtain ⟨ha, hb⟩ := B.rng _ _ hab
  have e1 : reachG g a = reachN (clsG g) (refsN g) (g.length + h.length + 1) 0 [a] := reachN_fuel (fun i hi => clsG_lt hg hi) hg.abs.rng _ _ _ _ (RInv.init ha) (by omega) (by omega)
  have e2 : reachG h b = reachN (clsG h) (refsN h) (g.length + h.length + 1) 0 [b] := reachN_fuel (fun i hi => clsG_lt hh hi) hh.abs.rng _ _ _ _ (RInv.init hb) (by omega) (by omega)
  rw [e1, e2]
  exact reachN_beside (beside_cls hg hh B) B.rf _ _ (.cons hab .nil)
theorem All2.flatMap_eq {R : Nat → Nat → Prop} {f f' : Nat → List UInt8} {xs ys : List Nat} (h : All2 R xs ys) (hf : ∀ i j, R i j → f i = f' j) : xs.flatMap f = ys.flatMap f' := by
  induction h with
  | nil => rfl
  | cons h t ih => rw [List.flatMap_cons, List.flatMap_cons, ih, hf _ _ h]
theorem All2.map_eq' {R : Nat → Nat → Prop} {β : Type} {f f' : Nat → β} {xs ys : List Nat} (h : All2 R xs ys) (hf : ∀ i j, R i j → f i = f' j) : xs.map f = ys.map f' := by
  induction h with
  | nil => rfl
  | cons h t ih => rw [List.map_cons, List.map_cons, ih, hf _ _ h]
theorem numB_map (cls : Nat → Nat) (out : List Nat) (g : Graph) (i : Nat) : (refsL (getT g i)).map (numB cls out) = (refsN g i).map fun r => (⟨(Lib.itoa (posN cls (cls r) out : Nat)).toArray⟩ : ByteArray) := by
  unfold refsN
  rw [List.map_map]
  rfl
theorem text_beside {g h : Graph} (hg : WF g) (hh : WF h) {R : Nat → Nat → Prop} (B : Beside g h R) {a b : Nat} (hab : R a b) : textG g a = textG h b := by
  have hr := reach_beside hg hh B hab
  refine hr.flatMap_eq fun i j hij => line_congr (B.ag i j hij) ?_
  rw [numB_map, numB_map]
  refine (B.rf i j hij).map_eq' fun x y hxy => ?_
  rw [hr.pos (beside_cls hg hh B) hxy]
/-- types that are the same have the same text -/
theorem text_same {g : Graph} (hg : WF g) {a b : Nat} (ha : a < g.length) (hb : b < g.length) (h : clsG g a = clsG g b) : textG g a = textG g b := by
  have hs := sameN_bisim hg.abs
  refine text_beside hg hg (R := fun i j => i < g.length ∧ j < g.length ∧ clsG g i = clsG g j) ⟨fun i j h => ⟨h.1, h.2.1⟩, fun i j h => hs.ag i j h.1 h.2.1 h.2.2, fun i j h => ?_⟩ ⟨ha, hb, h⟩
  refine forall2_of_getD (by have := (hs.rf i j h.1 h.2.1 h.2.2).length; exact this) fun k hk => ?_
  have h1 := forall2_getD (hs.rf i j h.1 h.2.1 h.2.2) k hk
  have hl := (hs.rf i j h.1 h.2.1 h.2.2).length
  exact ⟨hg.abs.rng i h.1 _ (getD_mem hk), hg.abs.rng j h.2.1 _ (getD_mem (by omega)), h1⟩
end Go.Proofs.YtldnjnnhfeobdaaGreatDoor
