/- Parts of the proof, joined: Contract: Merge. Conditions: lengths below 2^20; The law's own example: what the plain functions say of it. No program; Contracts: record, lists, of the law. No condition; Contract: alive, of the law. Condition: the tables of the library are laid; Plain law: what the reference asks of a type is what the program asks; a walk up that comes back does so in as many steps as there are types. No condition; Plain law: a graph that stands beside a well-formed one, its types being turned ones, is well-formed. No condition; Contracts of the reference: names, symbols, brands. Conditions: lengths below 2^20; Contracts of the reference: equal lists of strings, signatures, parts. Conditions: lengths below 2^20; Contract of the reference: two types agree at once. Conditions: lengths below 2^20; A law's arguments, opened: what a reading of a graph, of numbers says of the memory; how a law's answer is told. Bulk at most 2^20; What all laws of the seat share: how their answer is told, what their rows list. No condition. -/
import Derived.Test.YtldnjnnhfeobdaaGreatDoorRows
import Derived.Deep.Slices
import Derived.Carry
import Derived.OpenShut
import Derived.ProofKit
import Derived.Test.YtldnjnnhfeobdaaGreatDoorCards
import Derived.Test.YtldnjnnhfeobdaaGreatDoorTie
import Derived.WalkKit
import Derived.LaidSub
import Derived.Lay
import Derived.LaidMore
import Derived.SevenTiedAt
import Derived.Stop.Joined
import Derived.Deep.DeepHandedRow
import Derived.Lib.LaidTab
import Derived.Test.YtldnjnnhfeobdaaGreatDoorG07
import Derived.Test.YtldnjnnhfeobdaaGreatDoorG06
import Derived.Test.YtldnjnnhfeobdaaGreatDoorG03
import Derived.Test.YtldnjnnhfeobdaaGreatDoorG01
import Derived.Test.YtldnjnnhfeobdaaGreatDoorG04
namespace Go.Proofs.YtldnjnnhfeobdaaGreatDoor
set_option linter.all false
set_option linter.unusedSimpArgs false
set_option linter.unusedVariables false
open Go.RowKit Go.Shelf

def MergePost (w : World) (g : Graph) (e : Ending) (w' : World) : Prop :=
  ∃ v1 v2, e = .returned (.tuple #[v1, v2, .int .i64 (errG g [])]) ∧ Sl tyE w' v1 (mergeG g) ∧ Sl intE w' v2 (mergeTo g) ∧ Ext w w'
theorem slice23 : SliceOf Tryz.prog 23 42 10 144 := .mk' Tryz.underlying23 (by kernel_rfl)
theorem clsN_lt {g : Graph} (h : WF g) : ∀ k, k < g.length → (classesG g).getD k 0 < g.length := fun k hk => by
  have := (classesN_facts h.abs).1.le k hk
  show (classesN (agN g) (refsN g) g.length).getD k 0 < g.length
  omega
set_option maxRecDepth 100000 in
set_option maxHeartbeats 16000000 in
theorem merge_any (w : World) (gv : Value) (g : Graph) (hg : Sl tyE w gv g) (hT : Tidy g) (hG : Glob w) :
    Calls Tryz.prog 31 #[gv] w (MergePost w g) := by
  have hop := opened_any w gv (.slice none 0 0) g [] hg hT hG (Sl.nil _ _) (by simp)
  have hcl := fun (hW : WF g) (w' : World) (hx : Ext w w') => classes_any w' gv g (hg.mono hx) hT hW
  have hn := hT.len
  have hmk := fun w' => make_zeros w' g.length hn
  have hty := hT.ty
  have hg' := hg
  obtain ⟨A, cap, rfl, hs⟩ := hg.ty
  unfold MergePost mergeG mergeTo
  by_cases h0 : errG g [] = 0
  · rw [if_pos h0, if_pos h0]
    rw [h0] at hop ⊢
    have hW := (errG_zero h0).1
    have hcl := hcl hW
    have hcs := clsN_lt hW
    have hcl2 := classesG_length g hW
    have hfr := fun i (hi : i < g.length) => (hW.fine (getT_mem hi)).refs
    generalize classesG g = cs at *
    have Hop := Lib.hid hop
    have Hcl := Lib.hid hcl
    have Hcs := Lib.hid hcs
    have Hl := Lib.hid hcl2
    have Hs := Lib.hid hs
    have Hfr := Lib.hid hfr
    have Hty := Lib.hid hty
    have Hg := Lib.hid hg'
    clear hop hcl hcs hcl2 hs hg hg' hT hG h0 hW hfr hty
    go_enter Tryz.func31, Tryz.ntmps31
    go_wp2_with fail
    refine Hop.out.mono ?_
    rintro e w1 ⟨rfl, hx1⟩
    have Hx1 := Lib.hid (hx1.alloc (.cells #[.slice A g.length cap] 77))
    have hbx := heap_cell (heap_alloc_self w1 (.cells #[.slice A g.length cap] 77)) 0 _ rfl
    clear hx1
    go_wp2_with fail
    refine (Hcl.out _ Hx1.out).mono ?_
    rintro e w2 ⟨v2, rfl, hv2, hx2⟩
    obtain ⟨Ac, cc, e2⟩ := hv2.any.len
    rw [List.length_map, Hl.out] at e2
    subst e2
    have hst : GSt w w2.heap.size (w2.heap.size + 1 + 1) (w2.heap.size + 1) Ac cc g.length cs (placeL cs g.length 0) (((w2.alloc (.cells #[.slice Ac g.length cc] 24)).alloc (zeros g.length)).alloc (.cells #[.slice (some ⟨w2.heap.size + 1, 0, none⟩) g.length g.length] 24)) := by
      have e1 := heap_alloc_self w2 (.cells #[.slice Ac g.length cc] 24)
      have e2 := heap_alloc_self (w2.alloc (.cells #[.slice Ac g.length cc] 24)) (zeros g.length)
      have e3 := heap_alloc_self ((w2.alloc (.cells #[.slice Ac g.length cc] 24)).alloc (zeros g.length)) (.cells #[.slice (some ⟨w2.heap.size + 1, 0, none⟩) g.length g.length] 24)
      simp only [World.size_alloc] at e2 e3
      have hx := Hx1.out.trans hx2
      have hsz := hx.size
      refine ⟨((hx.alloc _).alloc _).alloc _, Boxed.ext (Boxed.ext e1 ((Ext.refl _).alloc _)) ((Ext.refl _).alloc _), e3, ?_, ?_, ⟨Hl.out, placeL_length _ _ _⟩, by omega, by omega, by omega⟩
      · rw [placeL_zero]; exact IntRow.ext e2 ((Ext.refl _).alloc _)
      · have h := hv2.mono (G := fun b => b < w2.heap.size + 1) (fun _ _ _ => rfl) (fun b _ hlt => by omega)
        exact ((h.ext ((Ext.refl _).alloc _)).ext ((Ext.refl _).alloc _)).ext ((Ext.refl _).alloc _)
    have Hst := Lib.hid hst
    clear hst hv2 hx2 hbx Hx1
    go_wp2_with fail
    generalize ((w2.alloc (.cells #[.slice Ac g.length cc] 24)).alloc (zeros g.length)).alloc (.cells #[.slice (some ⟨w2.heap.size + 1, 0, none⟩) g.length g.length] 24) = w3 at Hst ⊢
    generalize w2.heap.size = b7 at Hst ⊢
    go_loopw [9, 31] (fun nn u wr => ∃ k : Nat, k ≤ g.length ∧ u = .int .i64 k ∧ nn = .int .i64 (repsN cs k : Nat) ∧ Hid (GSt w b7 (b7 + 1 + 1) (b7 + 1) Ac cc g.length cs (placeL cs g.length k) wr)) (fun _ u _ => g.length - (intOf u).toNat)
    case atStart => exact ⟨0, by omega, rfl, rfl, Hst⟩
    case round =>
      clear Hst
      obtain ⟨k, hk, rfl, rfl, Hst⟩ := hrel
      have c8 := Hst.out.pbox.cell
      have c7 := Hst.out.cbox.cell
      have l8 := cell_lt c8
      have l7 := cell_lt c7
      have hrk := repsN_le cs k
      by_cases hlt : k < g.length
      · obtain ⟨b, off, rfl, c1⟩ := Hst.out.class k hlt
        have l1 := cell_lt c1
        have cr := Hst.out.row.cell k (by rw [placeL_length]; exact hlt)
        have fr := Hst.out.row.frozen k
        have lr := cell_lt cr
        have i0 : (0 : Int) ≤ (k : Int) := by omega
        have i1 : (k : Int) < (g.length : Int) := by omega
        by_cases he : cs.getD k 0 = k
        · have hset := placeL_yes hlt he
          have hsuc := repsN_succ cs k
          rw [if_pos he] at hsuc
          rw [he] at c1
          have Hset := Lib.hid hset
          have Hsuc := Lib.hid hsuc
          clear hset hsuc he
          go_wp2_with fail
          go_roundw
          case rel => exact ⟨k + 1, by omega, by go_num, by rw [Hsuc.out]; go_num, by rw [← Hset.out]; exact Lib.hid (Hst.out.set k (repsN cs k))⟩
          case measure => simp [intOf]; omega
        · have hno := placeL_no (n := g.length) he
          have hsuc := repsN_succ cs k
          rw [if_neg he, Nat.add_zero] at hsuc
          have hne : (((cs.getD k 0 : Nat) : Int) == (k : Int)) = false := by rw [beq_eq_false_iff_ne]; omega
          have Hno := Lib.hid hno
          have Hsuc := Lib.hid hsuc
          generalize cs.getD k 0 = c at *
          clear hno hsuc he
          go_wp2_with fail
          go_roundw
          case rel => exact ⟨k + 1, by omega, by go_num, by rw [Hsuc.out]; rfl, by rw [Hno.out]; exact Hst⟩
          case measure => simp [intOf]; omega
      · have hkn : k = g.length := by omega
        subst hkn
        have hmt : ∀ (w' : World) (hx : Ext wr w') (b : Nat) (off : Nat) (j : Nat) (hj : j < g.length) (vp vm vo : Value) (hof : TyOf w' (getT g j) vp vm vo),
            Calls Tryz.prog 72 #[tyV (getT g j) vp vm vo, .func (.func 71) #[] #[.pointer (some ⟨b7 + 1 + 1, 0, none⟩), .pointer (some ⟨b7, 0, none⟩)]] w' (RetP w' (Res tyE w' (turnT (toF cs (placeL cs g.length g.length)) (getT g j)))) := fun w' hx b off j hj vp vm vo hof =>
          moved_any w' 71 _ _ _ (getT g j) vp vm vo hof (Hty.out _ (getT_mem hj)).1 (top71 (Hst.out.later hx) hn Hcs.out) (fun r hr => Hfr.out j hj r hr)
        have hlast : ∀ (w' : World) (hx : Ext wr w'), Calls Tryz.prog 73 #[.slice Ac g.length cc, .func (.func 74) #[] #[.pointer (some ⟨b7 + 1 + 1, 0, none⟩)]] w' (RetP w' (fun w'' u => SlF (New w') intE w'' u ((cs.map fun (n : Nat) => (n : Int)).map (fun x => ((placeL cs g.length g.length).getD x.toNat 0 : Nat))))) := fun w' hx =>
          turned_int_int 74 _ w' _ _ _ ((Hst.out.later hx).cls.any) (by rw [List.length_map, Hl.out]; exact hn) (map74 (Hst.out.later hx) hn _ (fun x hx => by
            obtain ⟨c, hc, rfl⟩ := List.mem_map.1 hx
            obtain ⟨i, hi, rfl⟩ := List.mem_iff_getElem.1 hc
            have := Hcs.out i (by rw [← Hl.out]; exact hi)
            rw [List.getD_eq_getElem?_getD, List.getElem?_eq_getElem hi] at this
            simp at this
            omega))
        have Hmt := Lib.hid hmt
        have Hlast := Lib.hid hlast
        clear hmt hlast c7 c8 l7 l8 hk hrk hlt
        go_wp2_with fail
        obtain ⟨wo, rfl⟩ : ∃ wo : World, wo = wr := ⟨_, rfl⟩
        generalize hpl : placeL cs g.length g.length = pl at *
        have Hpl := Lib.hid hpl
        clear hpl
        go_loopw [13, 49] (fun o u wr => ∃ k : Nat, k ≤ g.length ∧ u = .int .i64 k ∧ Hid (Ext wo wr) ∧ Hid (Own (New w) tyE wr wo.heap.size 42 o (mergeL g cs pl k))) (fun _ u _ => g.length - (intOf u).toNat)
        case atStart => exact ⟨0, by omega, rfl, Lib.hid (Ext.refl _), Lib.hid (Own.nil _ _ _ _ _)⟩
        case round =>
          obtain ⟨k, hk, rfl, Hx, Hown⟩ := hrel
          have Hst2 := Lib.hid (Hst.out.later Hx.out)
          have hsz0 := Hst2.out.ext.size
          have c8 := Hst2.out.pbox.cell
          have c7 := Hst2.out.cbox.cell
          have l8 := cell_lt c8
          have l7 := cell_lt c7
          have hmk := mergeL_le g cs pl k
          by_cases hlt : k < g.length
          · obtain ⟨b, off, vp, vm, vo, rfl, hat, hof⟩ := Hs.out k hlt
            rw [← getT_lt hlt] at hat hof
            obtain ⟨A1, c1, e1⟩ := hof.parts.len
            obtain ⟨A2, c2, e2⟩ := hof.methods.len
            obtain ⟨A3, c3, e3⟩ := hof.overs.len
            subst e1 e2 e3
            have Hof := Lib.hid hof
            obtain ⟨d0, d1, d2, d3, d4, d5, d6, d7, d8, d9⟩ := hat.mono Hst2.out.ext
            have ld := cell_lt d0
            obtain ⟨bc, oc, rfl, cc1⟩ := Hst2.out.class k hlt
            have lc := cell_lt cc1
            have i0 : (0 : Int) ≤ (k : Int) := by omega
            have i1 : (k : Int) < (g.length : Int) := by omega
            clear hof hat
            by_cases he : cs.getD k 0 = k
            · have hsuc := mergeL_succ g cs pl k
              rw [if_pos he] at hsuc
              rw [he] at cc1
              have Hsuc := Lib.hid hsuc
              have hmv := fun (w' : World) (hx : Ext wr w') => Hmt.out w' (Hx.out.trans hx) b off k hlt _ _ _ (Hof.out.mono (Hst2.out.ext.trans hx))
              unfold tyV at hmv
              have Hmv := Lib.hid hmv
              clear hsuc he hmv
              generalize getT g k = t at *
              go_wp2_with fail
              refine (Hmv.out _ ((Ext.refl wr).alloc _)).mono ?_
              rintro e w5 ⟨v5, rfl, ⟨cs5, hrel, rfl⟩, hx5⟩
              have hx6 := ((Ext.refl wr).alloc (.cells #[.int .u8 t.kind, .int .i64 t.low, .int .i64 t.high, .bool t.branded, .string t.brand, .string t.opaq, .int .i64 t.super, .slice A1 t.parts.length c1, .slice A2 t.methods.length c2, .slice A3 t.overs.length c3] 42)).trans hx5
              have hown1 := Hown.out.kept hx6
              have Hlt : ∀ k, u13.ownBlock = some k → k < wr.heap.size := fun k hk => (Hown.out.lt k hk).2
              have Hrel : Hid (tyE.rel (fun b => New w b ∧ some b ≠ u13.ownBlock) w5 (turnT (toF cs pl) t) cs5) := tyE.mono _ _ _ _ _ _ (fun _ _ _ => rfl) (fun b hb _ => ⟨by unfold New at hb ⊢; simp at hb; omega, fun e => by have h1 := Hlt b e.symm; have h2 : _ ≤ b := hb; (try simp at h2); omega⟩) hrel
              obtain ⟨_, _, _, rfl, ⟨_, _, rfl, _⟩, ⟨_, _, rfl, _⟩, ⟨_, _, rfl, _⟩⟩ := hrel
              have Hown1 := Lib.hid hown1
              have Hx6 := Lib.hid hx6
              have hsz := (Hx.out.trans hx6).size
              clear hown1 Hown hx5 hx6 Hlt d0 d1 d2 d3 d4 d5 d6 d7 d8 d9 ld cc1 lc c7 c8 l7 l8
              simp only [pack]
              go_wp2_with (at_builtin; refine own_append tyE wo.heap.size rfl _ _ 23 42 144 rfl slice23 _ _ (turnT (toF cs pl) t) _ rfl rfl Hown1.out Hrel.out ?c1 ?c2 ?c3 ?_)
              case c1 => exact hsz
              case c2 => omega
              case c3 => decide
              intro v2 w6 hown2 hg2
              rw [← Hsuc.out] at hown2
              have hx7 : Ext wo w6 := Below.grown (Hx.out.trans Hx6.out) hg2 (Hx.out.trans Hx6.out).size (fun k hk => (Hown1.out.lt k hk).1)
              have Hx7 := Lib.hid hx7
              have Hown2 := Lib.hid hown2
              clear hg2 Hown1 Hx6 Hrel hown2 hx7
              go_wp2_with fail
              go_roundw
              case rel => exact ⟨k + 1, by omega, by go_num, Hx7, Hown2⟩
              case measure => simp [intOf]; omega
            · have hsuc := mergeL_succ g cs pl k
              rw [if_neg he, List.append_nil] at hsuc
              have hne : (((cs.getD k 0 : Nat) : Int) == (k : Int)) = false := by rw [beq_eq_false_iff_ne]; omega
              have Hsuc := Lib.hid hsuc
              generalize cs.getD k 0 = c at *
              clear hsuc he
              generalize getT g k = t at *
              go_wp2_with fail
              go_roundw
              case rel => exact ⟨k + 1, by omega, by go_num, Lib.hid (Hx.out.alloc _), by rw [Hsuc.out]; exact Lib.hid (Hown.out.kept ((Ext.refl wr).alloc _))⟩
              case measure => simp [intOf]; omega
          · have hkn : k = g.length := by omega
            subst hkn
            have hsl := Hown.out.sl (fun b hb => by have h := Hst.out.ext.size; show w.heap.size ≤ b; omega)
            have Hsl := Lib.hid hsl
            clear hsl hlt
            go_wp2_with fail
            refine (Hlast.out _ Hx.out).mono ?_
            rintro e w5 ⟨v5, rfl, hv5, hx5⟩
            have Hv5 := Lib.hid hv5
            have Hx5 := Lib.hid (Hst2.out.ext.trans hx5)
            have Hsl5 := Lib.hid (Hsl.out.any.mono hx5)
            clear hv5 hx5 c7 c8 l7 l8
            go_wp2_with fail
            go_ret3
            refine ⟨u13, v5, rfl, by rw [Hpl.out]; exact Hsl5.out, ?_, Hx5.out⟩
            rw [Hpl.out]
            have h := Hv5.out.any
            rw [List.map_map] at h
            exact h
  · rw [if_neg h0, if_neg h0]
    have hne : (errG g [] != 0) = true := by simpa using h0
    generalize errG g [] = er at hop hne ⊢
    have Hop := Lib.hid hop
    clear hop hcl hg hg' hs hT hG h0 hmk hty
    go_enter Tryz.func31, Tryz.ntmps31
    go_wp2_with fail
    refine Hop.out.mono ?_
    rintro e w1 ⟨rfl, hx1⟩
    go_wp2_with fail
    go_ret3
    exact ⟨_, _, rfl, Sl.nil _ _, Sl.nil _ _, hx1.alloc _⟩
end Go.Proofs.YtldnjnnhfeobdaaGreatDoor
/- The law's own example: what the plain functions say of it. No program. -/
namespace Go.Proofs.YtldnjnnhfeobdaaGreatDoor
set_option linter.all false
set_option linter.unusedSimpArgs false
set_option linter.unusedVariables false
open Go.RowKit Go.Shelf

def headS : ByteArray := ⟨#[104, 101, 97, 100]⟩
def tailS : ByteArray := ⟨#[116, 97, 105, 108]⟩
def emptyS : ByteArray := ⟨#[]⟩
def recT (a b : Int) : Ty := ⟨10, 0, 0, false, emptyS, emptyS, 0, [⟨headS, a⟩, ⟨tailS, b⟩], [], []⟩
def listsG : Graph := [⟨1, 0, 0, false, emptyS, emptyS, 0, [], [], []⟩, recT 0 1, recT 0 3, recT 0 2, ⟨9, 0, 0, false, emptyS, emptyS, 0, [⟨emptyS, 1⟩], [], []⟩, ⟨3, 0, 9, false, emptyS, emptyS, 0, [], [], []⟩, recT 5 6]
theorem lists_check : checkG listsG = (0, 0) := by decide +kernel
theorem lists_classes : classesG listsG = [0, 1, 1, 1, 4, 5, 6] := by decide +kernel
theorem lists_way : wayN (agN listsG) (refsN listsG) 7 1 6 = some [0] := by decide +kernel
theorem lists_err (ats : List Int) (h : ats.any (outB 7) = false) : errG listsG ats = 0 := by
  unfold errG
  rw [lists_check]
  simp [listsG] at h ⊢
  exact h
theorem lists_equal : equalG listsG 1 2 = true := by
  unfold equalG sameG
  rw [lists_err _ (by decide), lists_classes]
  decide
theorem lists_differ : equalG listsG 1 6 = false := by
  unfold equalG sameG
  rw [lists_err _ (by decide), lists_classes]
  decide
theorem lists_apart : apartG listsG 1 6 = some [0] := by
  unfold apartG
  rw [lists_err _ (by decide), if_pos rfl]
  exact lists_way
theorem lists_told : checkApartG listsG 1 6 [1, 0] = true := by
  unfold checkApartG
  rw [lists_err _ (by decide), if_pos rfl]
  decide +kernel
theorem lists_merge : (mergeG listsG).length = 5 := by
  unfold mergeG
  rw [lists_err _ (by decide), if_pos rfl, lists_classes]
  decide +kernel
theorem lists_to : mergeTo listsG = [0, 1, 1, 1, 2, 3, 4] := by
  unfold mergeTo
  rw [lists_err _ (by decide), if_pos rfl, lists_classes]
  decide +kernel
theorem lists_text : (textG listsG 3).toArray = #[49, 48, 32, 45, 32, 104, 101, 97, 100, 58, 49, 32, 116, 97, 105, 108, 58, 48, 10, 49, 10] := by decide +kernel
theorem lists_text0 : (textG listsG 0).toArray = #[49, 10] := by decide +kernel
theorem empty_digest : digestB ⟨#[]⟩ = ⟨#[84, 48, 48, 48, 48, 48, 48, 48, 48, 48, 52, 53, 72]⟩ := by decide +kernel
end Go.Proofs.YtldnjnnhfeobdaaGreatDoor
/- Contracts: record, lists, of the law. No condition. -/
namespace Go.Proofs.YtldnjnnhfeobdaaGreatDoor
set_option linter.all false
set_option linter.unusedSimpArgs false
set_option linter.unusedVariables false
open Go.RowKit Go.Shelf

theorem lit_sl {α : Type} {E : Elt α} {F : Nat → Prop} (W : World) (t : TypeId) (xs : List α) (rows : List (List Value)) (n : Nat) (hl : rows.length = xs.length) (hn : n = xs.length) (hF : F W.heap.size)
    (hr : ∀ (i : Nat) (x : α) (r : List Value), xs[i]? = some x → rows[i]? = some r → E.rel F W x r) : SlF F E (W.alloc (.cells rows.flatten.toArray t)) (.slice (some ⟨W.heap.size, 0, none⟩) n n) xs := by
  subst hn
  have hk : ∀ r ∈ rows, r.length = E.k := by
    intro r hm
    obtain ⟨i, hi, rfl⟩ := List.mem_iff_getElem.1 hm
    exact E.len _ _ _ _ (hr i (xs[i]'(by omega)) rows[i] (List.getElem?_eq_getElem (by omega)) (List.getElem?_eq_getElem hi))
  refine ⟨_, _, rfl, fun i x hi => ?_⟩
  have hlt : i < xs.length := (List.getElem?_eq_some_iff.1 hi).1
  have hrow : rows[i]? = some (rows[i]'(by omega)) := List.getElem?_eq_getElem (by omega)
  refine ⟨W.heap.size, 0, rows[i]'(by omega), rfl, ⟨hF, Nat.le_refl _⟩, Elt.ext (hr i x _ hi hrow) ((Ext.refl W).alloc _), fun j u hj => ?_⟩
  rw [World.cell?_alloc_new]
  have := flatten_get rows hk i j _ u hrow hj
  simpa using this

set_option maxRecDepth 100000 in
set_option maxHeartbeats 4000000 in
theorem record_any (w : World) (a b : Int) : Calls Tryz.prog 101 #[.int .i64 a, .int .i64 b] w (RetP w (Res tyE w (recT a b))) := by
  go_enter Tryz.func101, Tryz.ntmps101
  go_wp2_with fail
  have e := Ext.heap ((Ext.refl (w.alloc (.cells #[.int .u8 10, .int .i64 0, .int .i64 0, .bool false, .string ⟨#[]⟩, .string ⟨#[]⟩, .int .i64 0, .slice (some ⟨w.heap.size + 1, 0, none⟩) 2 2, .slice none 0 0, .slice none 0 0] 42))).alloc (.cells #[.string ⟨#[104, 101, 97, 100]⟩, .int .i64 a, .string ⟨#[116, 97, 105, 108]⟩, .int .i64 b] 95)) (heap_alloc_self w (.cells #[.int .u8 10, .int .i64 0, .int .i64 0, .bool false, .string ⟨#[]⟩, .string ⟨#[]⟩, .int .i64 0, .slice (some ⟨w.heap.size + 1, 0, none⟩) 2 2, .slice none 0 0, .slice none 0 0] 42))
  have d0 := heap_cell e 0 _ rfl
  have d1 := heap_cell e 1 _ rfl
  have d2 := heap_cell e 2 _ rfl
  have d3 := heap_cell e 3 _ rfl
  have d4 := heap_cell e 4 _ rfl
  have d5 := heap_cell e 5 _ rfl
  have d6 := heap_cell e 6 _ rfl
  have d7 := heap_cell e 7 _ rfl
  have d8 := heap_cell e 8 _ rfl
  have d9 := heap_cell e 9 _ rfl
  refine bodyPost_ret (v := .agg #[.int .u8 10, .int .i64 0, .int .i64 0, .bool false, .string ⟨#[]⟩, .string ⟨#[]⟩, .int .i64 0, .slice (some ⟨w.heap.size + 1, 0, none⟩) 2 2, .slice none 0 0, .slice none 0 0]) ?_ rfl ?_
  · simp [results, Tryz.results101, go_sem, d0, d1, d2, d3, d4, d5, d6, d7, d8, d9]
  · refine ⟨_, rfl, ⟨_, ⟨_, _, _, rfl, ?_, SlF.nil _ _ _, SlF.nil _ _ _⟩, rfl⟩, ((Ext.refl w).alloc _).alloc _⟩
    have h := lit_sl (F := New w) (E := partE) (w.alloc (.cells #[.int .u8 10, .int .i64 0, .int .i64 0, .bool false, .string ⟨#[]⟩, .string ⟨#[]⟩, .int .i64 0, .slice (some ⟨w.heap.size + 1, 0, none⟩) 2 2, .slice none 0 0, .slice none 0 0] 42)) 95 [⟨headS, a⟩, ⟨tailS, b⟩] [[.string headS, .int .i64 a], [.string tailS, .int .i64 b]] 2 rfl rfl (by unfold New; simp) (fun i x r h1 h2 => by
      match i with
      | 0 => simp at h1 h2; subst h1 h2; rfl
      | 1 => simp at h1 h2; subst h1 h2; rfl
      | i + 2 => simp at h1)
    rw [World.size_alloc] at h
    exact h
set_option maxRecDepth 100000 in
set_option maxHeartbeats 4000000 in
theorem lists_any (w : World) : Calls Tryz.prog 53 #[] w (RetP w (fun w' v => SlF (New w) tyE w' v listsG)) := by
  have hr := record_any
  have Hr := Lib.hid hr
  clear hr
  go_enter Tryz.func53, Tryz.ntmps53
  go_wp2_with fail
  refine (Hr.out _ _ _).mono ?_
  rintro e w1 ⟨_, rfl, ⟨_, ⟨p1, m1', o1, rfl, h1p, h1m, h1o⟩, rfl⟩, hx1⟩
  simp only [pack]
  go_wp2_with fail
  refine (Hr.out _ _ _).mono ?_
  rintro e w2 ⟨_, rfl, ⟨_, ⟨p2, m2', o2, rfl, h2p, h2m, h2o⟩, rfl⟩, hx2⟩
  simp only [pack]
  go_wp2_with fail
  refine (Hr.out _ _ _).mono ?_
  rintro e w3 ⟨_, rfl, ⟨_, ⟨p3, m3', o3, rfl, h3p, h3m, h3o⟩, rfl⟩, hx3⟩
  simp only [pack]
  go_wp2_with fail
  refine (Hr.out _ _ _).mono ?_
  rintro e w4 ⟨_, rfl, ⟨_, ⟨p4, m4', o4, rfl, h4p, h4m, h4o⟩, rfl⟩, hx4⟩
  simp only [pack]
  go_wp2_with fail
  have hx := (hx1.trans (hx2.trans hx3)).alloc (.cells #[.string ⟨#[]⟩, .int .i64 1] 95)
  have hs1 := hx1.size
  have hs2 := hx2.size
  have hs3 := hx3.size
  have hs4 := hx4.size
  rw [World.size_alloc] at hs4
  have m1 : ∀ {α : Type} {E : Elt α} {v : Value} {xs : List α}, SlF (New w) E w1 v xs → SlF (New w) E w4 v xs := fun h => h.ext ((hx2.trans hx3).trans (((Ext.refl _).alloc _).trans hx4))
  have m2 : ∀ {α : Type} {E : Elt α} {v : Value} {xs : List α}, SlF (New w1) E w2 v xs → SlF (New w) E w4 v xs := fun h => (h.mono (fun _ _ _ => rfl) (fun b hb _ => by unfold New at hb ⊢; omega)).ext (hx3.trans (((Ext.refl _).alloc _).trans hx4))
  have m3 : ∀ {α : Type} {E : Elt α} {v : Value} {xs : List α}, SlF (New w2) E w3 v xs → SlF (New w) E w4 v xs := fun h => (h.mono (fun _ _ _ => rfl) (fun b hb _ => by unfold New at hb ⊢; omega)).ext (((Ext.refl _).alloc _).trans hx4)
  have m4 : ∀ {α : Type} {E : Elt α} {v : Value} {xs : List α}, SlF (New (w3.alloc (.cells #[.string ⟨#[]⟩, .int .i64 1] 95))) E w4 v xs → SlF (New w) E w4 v xs := fun h => h.mono (fun _ _ _ => rfl) (fun b hb _ => by unfold New at hb ⊢; rw [World.size_alloc] at hb; omega)
  have hp : SlF (New w) partE w4 (.slice (some ⟨w3.heap.size, 0, none⟩) 1 1) [(⟨emptyS, 1⟩ : Part)] := SlF.ext (lit_sl (α := Part) (E := partE) (F := New w) w3 95 [(⟨emptyS, 1⟩ : Part)] [[.string emptyS, .int .i64 1]] 1 rfl rfl (by unfold New; omega) (fun i x r h1 h2 => by
      match i with
      | 0 => simp at h1 h2; subst h1 h2; rfl
      | i + 1 => simp at h1)) hx4
  go_ret
  refine ⟨_, rfl, lit_sl (F := New w) w4 42 listsG [[.int .u8 1, .int .i64 0, .int .i64 0, .bool false, .string ⟨#[]⟩, .string ⟨#[]⟩, .int .i64 0, .slice none 0 0, .slice none 0 0, .slice none 0 0], [.int .u8 10, .int .i64 0, .int .i64 0, .bool false, .string ⟨#[]⟩, .string ⟨#[]⟩, .int .i64 0, p1, m1', o1], [.int .u8 10, .int .i64 0, .int .i64 0, .bool false, .string ⟨#[]⟩, .string ⟨#[]⟩, .int .i64 0, p2, m2', o2], [.int .u8 10, .int .i64 0, .int .i64 0, .bool false, .string ⟨#[]⟩, .string ⟨#[]⟩, .int .i64 0, p3, m3', o3], [.int .u8 9, .int .i64 0, .int .i64 0, .bool false, .string ⟨#[]⟩, .string ⟨#[]⟩, .int .i64 0, .slice (some ⟨w3.heap.size, 0, none⟩) 1 1, .slice none 0 0, .slice none 0 0], [.int .u8 3, .int .i64 0, .int .i64 9, .bool false, .string ⟨#[]⟩, .string ⟨#[]⟩, .int .i64 0, .slice none 0 0, .slice none 0 0, .slice none 0 0], [.int .u8 10, .int .i64 0, .int .i64 0, .bool false, .string ⟨#[]⟩, .string ⟨#[]⟩, .int .i64 0, p4, m4', o4]] 7 rfl rfl (by unfold New; omega) ?_, ?_⟩
  · intro i x r h1 h2
    match i with
    | 0 => simp [listsG] at h1 h2; subst h1 h2; exact ⟨_, _, _, rfl, SlF.nil _ _ _, SlF.nil _ _ _, SlF.nil _ _ _⟩
    | 1 => simp [listsG] at h1 h2; subst h1 h2; exact ⟨_, _, _, rfl, m1 h1p, m1 h1m, m1 h1o⟩
    | 2 => simp [listsG] at h1 h2; subst h1 h2; exact ⟨_, _, _, rfl, m2 h2p, m2 h2m, m2 h2o⟩
    | 3 => simp [listsG] at h1 h2; subst h1 h2; exact ⟨_, _, _, rfl, m3 h3p, m3 h3m, m3 h3o⟩
    | 4 => simp [listsG] at h1 h2; subst h1 h2; exact ⟨_, _, _, rfl, hp, SlF.nil _ _ _, SlF.nil _ _ _⟩
    | 5 => simp [listsG] at h1 h2; subst h1 h2; exact ⟨_, _, _, rfl, SlF.nil _ _ _, SlF.nil _ _ _, SlF.nil _ _ _⟩
    | 6 => simp [listsG] at h1 h2; subst h1 h2; exact ⟨_, _, _, rfl, m4 h4p, m4 h4m, m4 h4o⟩
    | i + 7 => simp [listsG] at h1
  · exact (hx.trans hx4).alloc _
end Go.Proofs.YtldnjnnhfeobdaaGreatDoor
/- Contract: alive, of the law. Condition: the tables of the library are laid. -/
namespace Go.Proofs.YtldnjnnhfeobdaaGreatDoor
set_option linter.all false
set_option linter.unusedSimpArgs false
set_option linter.unusedVariables false
open Go.RowKit Go.Shelf

theorem lists_tidy : Tidy listsG := by
  refine ⟨by decide, ?_⟩
  intro t ht
  simp only [listsG, List.mem_cons, List.not_mem_nil, or_false] at ht
  rcases ht with rfl | rfl | rfl | rfl | rfl | rfl | rfl <;>
    exact ⟨⟨by decide, by decide, by decide, by simp only [recT, List.forall_mem_cons, List.not_mem_nil, false_imp_iff, implies_true, and_true]; first | done | decide, by decide, by simp [recT], by decide, by simp [recT]⟩, by decide, by decide⟩
theorem lists_errs : errG listsG [1, 2] = 0 ∧ errG listsG [1, 6] = 0 ∧ errG listsG [] = 0 ∧ errG listsG [3] = 0 ∧ errG listsG [0] = 0 := by
  refine ⟨?_, ?_, ?_, ?_, ?_⟩ <;> exact lists_err _ (by decide)
theorem lists_textS : textS listsG 3 = ⟨#[49, 48, 32, 45, 32, 104, 101, 97, 100, 58, 49, 32, 116, 97, 105, 108, 58, 48, 10, 49, 10]⟩ := by
  unfold textS
  rw [lists_errs.2.2.2.1, if_pos rfl]
  exact congrArg ByteArray.mk lists_text
theorem lists_textS0 : textS listsG 0 = ⟨#[49, 10]⟩ := by
  unfold textS
  rw [lists_errs.2.2.2.2, if_pos rfl]
  exact congrArg ByteArray.mk lists_text0
theorem lists_apartP {w w' : World} {e : Ending} : ApartPost w (apartG listsG 1 6) (errG listsG [1, 6]) e w' → ∃ A c b off, e = .returned (.tuple #[.slice A 1 c, .bool true, .int .i64 0]) ∧ A = some ⟨b, off, none⟩ ∧ w'.cell? ⟨b, off, none⟩ = some (.int .i64 0) ∧ Ext w w' := by
  rw [lists_apart, lists_errs.2.1]
  rintro ⟨v, rfl, hv, hx⟩
  obtain ⟨A, c, rfl, hs⟩ := Sl.nat hv
  obtain ⟨b, off, rfl, hc⟩ := hs 0 (by simp)
  exact ⟨_, c, b, off, rfl, rfl, hc, hx⟩
theorem lists_mergeP {w w' : World} {e : Ending} : MergePost w listsG e w' → ∃ A c B k b off, e = .returned (.tuple #[.slice A 5 c, .slice B 7 k, .int .i64 0]) ∧ B = some ⟨b, off, none⟩ ∧ w'.cell? ⟨b, off + 3, none⟩ = some (.int .i64 1) ∧ Ext w w' := by
  rintro ⟨v1, v2, rfl, h1, h2, hx⟩
  obtain ⟨A, c, rfl⟩ := h1.len
  rw [lists_to] at h2
  obtain ⟨B, k, rfl, hs⟩ := h2.int
  obtain ⟨b, off, rfl, hc⟩ := hs 3 (by decide)
  rw [lists_merge, lists_errs.2.2.1]
  exact ⟨A, c, _, k, b, off, rfl, rfl, hc, hx⟩

set_option maxRecDepth 100000 in
set_option maxHeartbeats 16000000 in
theorem alive_any (w : World) (hG : Glob w) : Calls Tryz.prog 14 #[] w (Ret w (.bool true)) := by
  have hl := lists_any
  have he := fun (w' : World) (v : Value) (hx : Ext w w') (hv : Sl tyE w' v listsG) => equal_any w' v listsG 1 2 hv lists_tidy (hG.mono hx)
  have hd := fun (w' : World) (v : Value) (hx : Ext w w') (hv : Sl tyE w' v listsG) => equal_any w' v listsG 1 6 hv lists_tidy (hG.mono hx)
  have ha := fun (w' : World) (v : Value) (hx : Ext w w') (hv : Sl tyE w' v listsG) => (apart_any w' v listsG 1 6 hv lists_tidy (hG.mono hx)).mono fun e w'' h => lists_apartP h
  have hc := fun (w' : World) (v u : Value) (hx : Ext w w') (hv : Sl tyE w' v listsG) (hu : Sl intE w' u [1, 0]) => checkApart_any w' v u listsG 1 6 [1, 0] hv lists_tidy (hG.mono hx) hu (by decide)
  have hm := fun (w' : World) (v : Value) (hx : Ext w w') (hv : Sl tyE w' v listsG) => (merge_any w' v listsG hv lists_tidy (hG.mono hx)).mono fun e w'' h => lists_mergeP h
  have ht := fun (w' : World) (v : Value) (hx : Ext w w') (hv : Sl tyE w' v listsG) => Text_any w' v listsG 3 hv lists_tidy (hG.mono hx)
  have hp := fun (w' : World) (v : Value) (hx : Ext w w') (hv : Sl tyE w' v listsG) => Print_any w' v listsG 0 hv lists_tidy (hG.mono hx) (by rw [lists_textS0]; decide)
  have hg1 := fun (w' : World) => digest_any ⟨#[49, 10]⟩ w' (by decide)
  have hg2 := fun (w' : World) => digest_any ⟨#[]⟩ w' (by decide)
  simp only [lists_errs.1, lists_equal] at he
  simp only [lists_errs.2.1, lists_differ] at hd
  simp only [lists_errs.2.1, lists_told] at hc
  simp only [lists_errs.2.2.2.1, lists_textS] at ht
  simp only [lists_errs.2.2.2.2, lists_textS0, if_true] at hp
  simp only [empty_digest] at hg2
  generalize digestB ⟨#[49, 10]⟩ = dg at *
  have Hl := Lib.hid hl
  have He := Lib.hid he
  have Hd := Lib.hid hd
  have Ha := Lib.hid ha
  have Hc := Lib.hid hc
  have Hm := Lib.hid hm
  have Ht := Lib.hid ht
  have Hp := Lib.hid hp
  have Hg1 := Lib.hid hg1
  have Hg2 := Lib.hid hg2
  clear hl he hd ha hc hm ht hp hg1 hg2 hG
  go_enter Tryz.func14, Tryz.ntmps14
  go_wp2_with fail
  refine (Hl.out _).mono ?_
  rintro e w1 ⟨v, rfl, hv, hx⟩
  obtain ⟨A, cap, rfl⟩ := hv.any.len
  have Hv := Lib.hid hv.any
  have Hx := Lib.hid hx
  clear hv hx
  go_wp2_with fail
  refine (He.out _ _ Hx.out Hv.out).mono ?_
  rintro e w2 ⟨rfl, hx⟩
  replace Hv := Lib.hid (Hv.out.mono hx)
  replace Hx := Lib.hid (Hx.out.trans hx)
  clear hx
  go_wp2_with fail
  refine (Hd.out _ _ Hx.out Hv.out).mono ?_
  rintro e w3 ⟨rfl, hx⟩
  replace Hv := Lib.hid (Hv.out.mono hx)
  replace Hx := Lib.hid (Hx.out.trans hx)
  clear hx
  go_wp2_with fail
  refine (Ha.out _ _ Hx.out Hv.out).mono ?_
  rintro e w4 ⟨Aa, ca, ba, oa, rfl, rfl, cell1, hx⟩
  replace Hv := Lib.hid (Hv.out.mono hx)
  replace Hx := Lib.hid (Hx.out.trans hx)
  clear hx
  have hx := (Ext.refl w4).alloc (.cells #[.int .i64 1, .int .i64 0] 3)
  have Hw := Lib.hid (lit_ints w4 [1, 0] 2 rfl)
  replace Hv := Lib.hid (Hv.out.mono hx)
  replace Hx := Lib.hid (Hx.out.trans hx)
  replace cell1 := hx.cell cell1
  clear hx
  go_wp2_with fail
  refine (Hc.out _ _ _ Hx.out Hv.out Hw.out).mono ?_
  rintro e w5 ⟨rfl, hx⟩
  replace Hv := Lib.hid (Hv.out.mono hx)
  replace Hx := Lib.hid (Hx.out.trans hx)
  replace cell1 := hx.cell cell1
  clear hx
  go_wp2_with fail
  refine (Hm.out _ _ Hx.out Hv.out).mono ?_
  rintro e w6 ⟨Am, cm, Bm, km, bm, om, rfl, rfl, cell2, hx⟩
  replace Hv := Lib.hid (Hv.out.mono hx)
  replace Hx := Lib.hid (Hx.out.trans hx)
  replace cell1 := hx.cell cell1
  clear hx
  go_wp2_with fail
  refine (Ht.out _ _ Hx.out Hv.out).mono ?_
  rintro e w7 ⟨rfl, hx⟩
  replace Hv := Lib.hid (Hv.out.mono hx)
  replace Hx := Lib.hid (Hx.out.trans hx)
  replace cell1 := hx.cell cell1
  replace cell2 := hx.cell cell2
  clear hx
  go_wp2_with fail
  refine (Hp.out _ _ Hx.out Hv.out).mono ?_
  rintro e w8 ⟨rfl, hx⟩
  replace Hv := Lib.hid (Hv.out.mono hx)
  replace Hx := Lib.hid (Hx.out.trans hx)
  replace cell1 := hx.cell cell1
  replace cell2 := hx.cell cell2
  clear hx
  go_wp2_with fail
  refine (Hg1.out _).mono ?_
  rintro e w9 ⟨rfl, hx⟩
  replace Hx := Lib.hid (Hx.out.trans hx)
  clear hx cell1 cell2
  go_wp2_with fail
  refine (Hg2.out _).mono ?_
  rintro e w10 ⟨rfl, hx⟩
  replace Hx := Lib.hid (Hx.out.trans hx)
  clear hx
  go_wp2_with fail
  go_ret
  exact ⟨rfl, Hx.out⟩
end Go.Proofs.YtldnjnnhfeobdaaGreatDoor
/- Plain law: what the reference asks of a type is what the program asks; a walk up that comes back does so in as many steps as there are types. No condition. -/
namespace Go.Proofs.YtldnjnnhfeobdaaGreatDoor
set_option linter.all false
set_option linter.unusedSimpArgs false
set_option linter.unusedVariables false
open Go.RowKit

/-! ### names of parts, methods, overrides -/
def partsFrom (n : Nat) (seen : List ByteArray) : List Part → Bool
  | [] => true
  | p :: r => isNameB p.name && (hasB n p.type && (!memB p.name seen && partsFrom n (seen ++ [p.name]) r))
def methsFrom (n : Nat) (seen : List ByteArray) : List Method → Bool
  | [] => true
  | m :: r => isNameB m.name && ((strEq m.proc ByteArray.empty || isSymbolB m.proc) && (sigB n m && (!memB m.name seen && methsFrom n (seen ++ [m.name]) r)))
def oversFrom (seen : List ByteArray) : List Over → Bool
  | [] => true
  | o :: r => isNameB o.name && (isSymbolB o.proc && (!memB o.name seen && oversFrom (seen ++ [o.name]) r))
theorem distinct_step (seen : List ByteArray) (x : ByteArray) (r : List ByteArray) : distinctFrom seen (x :: r) = if memB x seen then false else isNameB x && distinctFrom (seen ++ [x]) r := rfl
theorem parts_law (n : Nat) : ∀ (l : List Part) (seen : List ByteArray), partsFrom n seen l = (!l.any (partBad n) && distinctFrom seen (l.map Part.name))
  | [], seen => rfl
  | p :: r, seen => by
    have ih := parts_law n r (seen ++ [p.name])
    unfold partsFrom
    rw [ih, List.any_cons, List.map_cons, distinct_step]
    generalize r.any (partBad n) = x
    generalize distinctFrom (seen ++ [p.name]) (r.map Part.name) = y
    unfold partBad
    cases isNameB p.name <;> cases hasB n p.type <;> cases memB p.name seen <;> cases x <;> simp
theorem meths_law (n : Nat) : ∀ (l : List Method) (seen : List ByteArray), methsFrom n seen l = (!l.any (badMethod n) && distinctFrom seen (l.map Method.name))
  | [], seen => rfl
  | m :: r, seen => by
    have ih := meths_law n r (seen ++ [m.name])
    unfold methsFrom
    rw [ih, List.any_cons, List.map_cons, distinct_step]
    generalize r.any (badMethod n) = x
    generalize distinctFrom (seen ++ [m.name]) (r.map Method.name) = y
    unfold badMethod
    cases isNameB m.name <;> cases sigB n m <;> cases memB m.name seen <;> cases x <;> cases strEq m.proc ByteArray.empty <;> cases isSymbolB m.proc <;> simp
theorem overs_law : ∀ (l : List Over) (seen : List ByteArray), oversFrom seen l = (!l.any badOver && distinctFrom seen (l.map Over.name))
  | [], seen => rfl
  | o :: r, seen => by
    have ih := overs_law r (seen ++ [o.name])
    unfold oversFrom
    rw [ih, List.any_cons, List.map_cons, distinct_step]
    generalize r.any badOver = x
    generalize distinctFrom (seen ++ [o.name]) (r.map Over.name) = y
    unfold badOver
    cases isNameB o.name <;> cases memB o.name seen <;> cases x <;> cases isSymbolB o.proc <;> simp
def partsB (n : Nat) (l : List Part) : Bool := partsFrom n [] l && decide (l.length ≤ 8)
def methsB (n : Nat) (t : Ty) : Bool := methsFrom n [] t.methods && (oversFrom [] t.overs && (decide (t.methods.length ≤ 8) && decide (t.overs.length ≤ 8)))
/-! ### a type in itself -/
def numsB (t : Ty) : Bool := decide (t.low = 0) && decide (t.high = 0)
def brandlessB (t : Ty) : Bool := !t.branded && strEq t.brand ByteArray.empty
def plainsB (t : Ty) : Bool := decide (t.methods.length = 0) && decide (t.overs.length = 0)
def brandingB (t : Ty) : Bool := isBrandB t.brand && (t.branded || strEq t.brand ByteArray.empty)
def topB (t : Ty) : Bool := decide (t.super = 0)
def bareB (t : Ty) : Bool := decide (t.parts.length = 0)
def clearB (t : Ty) : Bool := strEq t.opaq ByteArray.empty
def oneB (n : Nat) (t : Ty) : Bool := decide (t.parts.length = 1) && (strEq ((t.parts.head?.map Part.name).getD ByteArray.empty) ByteArray.empty && hasB n ((t.parts.head?.map Part.type).getD 0))
def saidB (g : Graph) (t : Ty) : Bool :=
  if t.kind = 3 then decide (-1000000000 ≤ t.low) && (decide (t.low ≤ t.high) && (decide (t.high ≤ 1000000000) && (brandlessB t && (topB t && (bareB t && (plainsB t && clearB t))))))
  else if t.kind = 9 ∨ t.kind = 11 then numsB t && (brandingB t && (topB t && (oneB g.length t && (plainsB t && clearB t))))
  else if t.kind = 10 then numsB t && (brandingB t && (topB t && (decide (1 ≤ t.parts.length) && (partsB g.length t.parts && (plainsB t && clearB t)))))
  else if t.kind = 12 then numsB t && (brandingB t && (overB g t.super kindsObject && (partsB g.length t.parts && (methsB g.length t && clearB t))))
  else if t.kind = 13 then numsB t && (brandlessB t && (overB g t.super kindsOpaque && (bareB t && (plainsB t && isSymbolB t.opaq))))
  else if 1 ≤ t.kind ∧ t.kind < 14 then numsB t && (brandlessB t && (topB t && (bareB t && (plainsB t && clearB t)))) else false
theorem isEmpty_strEq (s : ByteArray) : s.toList.isEmpty = strEq s ByteArray.empty := (strEq_empty s).symm
theorem lens_zero (a b c : Nat) : decide (a + b + c = 0) = (decide (a = 0) && (decide (b = 0) && decide (c = 0))) := by
  rw [Bool.eq_iff_iff]; simp; omega
theorem le8 (n : Nat) : decide ((n : Int) ≤ 8) = decide (n ≤ 8) := by rw [Bool.eq_iff_iff]; simp; omega
set_option maxHeartbeats 1000000 in
theorem said_right (g : Graph) (t : Ty) : saidB g t = rightB g t := by
  unfold saidB rightB
  by_cases h3 : t.kind = 3
  · rw [if_pos h3, if_pos h3]
    unfold rangedB zeroB noRange brandlessB topB bareB plainsB clearB inB
    simp only [isEmpty_strEq, lens_zero]
    generalize decide (-1000000000 ≤ t.low) = a1
    generalize decide (t.low ≤ t.high) = a2
    generalize decide (t.high ≤ 1000000000) = a3
    generalize t.branded = a4
    generalize strEq t.brand ByteArray.empty = a5
    generalize strEq t.opaq ByteArray.empty = a6
    generalize decide (t.super = 0) = a7
    generalize decide (t.parts.length = 0) = a8
    generalize decide (t.methods.length = 0) = a9
    generalize decide (t.overs.length = 0) = b1
    rw [Bool.eq_iff_iff]
    simp
    grind
  rw [if_neg h3, if_neg h3]
  by_cases h9 : t.kind = 9 ∨ t.kind = 11
  · rw [if_pos h9, if_pos h9]
    unfold heldB brandedB zeroB noParts noBrand brandingB topB plainsB clearB numsB oneB
    simp only [isEmpty_strEq, lens_zero]
    match hp : t.parts with
    | [] => simp
    | [p] =>
      have : strEq ByteArray.empty ByteArray.empty = true := by unfold strEq; simp
      simp only [this, List.any_cons, List.any_nil, partBad, List.length_cons, List.length_nil, List.head?_cons, Option.map_some, Option.getD_some]
      generalize isBrandB t.brand = a1
      generalize t.branded = a2
      generalize strEq t.brand ByteArray.empty = a3
      generalize strEq t.opaq ByteArray.empty = a4
      generalize strEq p.name ByteArray.empty = a5
      generalize hasB g.length p.type = a6
      generalize decide (t.low = 0) = a7
      generalize decide (t.high = 0) = a8
      generalize decide (t.super = 0) = a9
      rw [Bool.eq_iff_iff]
      simp
      grind
    | p :: q :: r => simp
  rw [if_neg h9, if_neg h9]
  have he : strEq ByteArray.empty ByteArray.empty = true := by unfold strEq; simp
  by_cases h10 : t.kind = 10
  · rw [if_pos h10, if_pos h10]
    unfold recordedB brandedB zeroB noParts noBrand brandingB topB plainsB clearB numsB partsB differentB
    simp only [isEmpty_strEq, lens_zero, parts_law, he, List.length_map, le8]
    have h1 : decide (1 ≤ t.parts.length) = decide (0 < t.parts.length) := rfl
    rw [h1]
    generalize isBrandB t.brand = a1
    generalize t.branded = a2
    generalize strEq t.brand ByteArray.empty = a3
    generalize strEq t.opaq ByteArray.empty = a4
    generalize t.parts.any (partBad g.length) = a5
    generalize distinctFrom [] (t.parts.map Part.name) = a6
    generalize decide (0 < t.parts.length) = a7
    generalize decide (t.parts.length ≤ 8) = a8
    generalize decide (t.low = 0) = a9
    generalize decide (t.high = 0) = b1
    generalize decide (t.super = 0) = b2
    rw [Bool.eq_iff_iff]
    simp
    grind
  rw [if_neg h10, if_neg h10]
  by_cases h12 : t.kind = 12
  · rw [if_pos h12, if_pos h12]
    unfold objectsB brandedB zeroB noObject noBrand brandingB clearB numsB partsB differentB objectB methsB differentB
    simp only [isEmpty_strEq, lens_zero, parts_law, meths_law, overs_law, he, List.length_map, le8]
    generalize isBrandB t.brand = a1
    generalize t.branded = a2
    generalize strEq t.brand ByteArray.empty = a3
    generalize strEq t.opaq ByteArray.empty = a4
    generalize t.parts.any (partBad g.length) = a5
    generalize distinctFrom [] (t.parts.map Part.name) = a6
    generalize decide (t.parts.length ≤ 8) = a7
    generalize decide (t.low = 0) = a8
    generalize decide (t.high = 0) = a9
    generalize t.methods.any (badMethod g.length) = b1
    generalize distinctFrom [] (t.methods.map Method.name) = b2
    generalize decide (t.methods.length ≤ 8) = b3
    generalize t.overs.any badOver = b4
    generalize distinctFrom [] (t.overs.map Over.name) = b5
    generalize decide (t.overs.length ≤ 8) = b6
    generalize overB g t.super kindsObject = b7
    rw [Bool.eq_iff_iff]
    simp
    grind
  rw [if_neg h12, if_neg h12]
  by_cases h13 : t.kind = 13
  · rw [if_pos h13, if_pos h13]
    unfold opaqueB zeroB noOpaque brandlessB plainsB numsB bareB
    simp only [isEmpty_strEq, lens_zero, he]
    cases isSymbolB t.opaq <;> cases t.branded <;> cases strEq t.brand ByteArray.empty <;> cases overB g t.super kindsOpaque <;> cases decide (t.low = 0) <;> cases decide (t.high = 0) <;> cases decide (t.parts.length = 0) <;> simp
  rw [if_neg h13, if_neg h13]
  by_cases h1 : 1 ≤ t.kind ∧ t.kind < 14
  · rw [if_pos h1, decide_eq_true h1]
    unfold zeroB brandlessB topB plainsB numsB bareB clearB
    simp only [isEmpty_strEq, lens_zero, Bool.true_and]
    cases t.branded <;> cases strEq t.brand ByteArray.empty <;> cases strEq t.opaq ByteArray.empty <;> cases decide (t.low = 0) <;> cases decide (t.high = 0) <;> cases decide (t.super = 0) <;> cases decide (t.parts.length = 0) <;> simp
  · rw [if_neg h1, decide_eq_false h1, Bool.false_and]
/-! ### the walk up -/
def upN (g : Graph) : Nat → Nat → Nat
  | 0, a => a
  | k + 1, a => upN g k (superN g a)
theorem upN_succ (g : Graph) : ∀ k a, upN g (k + 1) a = superN g (upN g k a)
  | 0, a => rfl
  | k + 1, a => by rw [upN, upN_succ g k]; rfl
theorem upN_add (g : Graph) (j : Nat) : ∀ k a, upN g (j + k) a = upN g j (upN g k a)
  | 0, a => rfl
  | k + 1, a => by rw [← Nat.add_assoc, upN, upN_add g j k]; rfl
theorem cycN_iff (g : Graph) (i : Nat) : ∀ m a, cycN g i m a = true ↔ ∃ k, 1 ≤ k ∧ k ≤ m ∧ (∀ j, j < k → hasSuperB (getT g (upN g j a)).kind = true) ∧ upN g k a = i
  | 0, a => by
    constructor
    · intro h; simp [cycN] at h
    · rintro ⟨k, h1, h2, _⟩; omega
  | m + 1, a => by
    unfold cycN
    rw [Bool.and_eq_true, Bool.or_eq_true, decide_eq_true_iff, cycN_iff g i m]
    constructor
    · rintro ⟨h1, h2 | ⟨k, k1, k2, k3, k4⟩⟩
      · exact ⟨1, by omega, by omega, fun j hj => by obtain rfl : j = 0 := by omega
                                                     exact h1, h2⟩
      · refine ⟨k + 1, by omega, by omega, fun j hj => ?_, k4⟩
        cases j with
        | zero => exact h1
        | succ j => exact k3 j (by omega)
    · rintro ⟨k, k1, k2, k3, k4⟩
      refine ⟨k3 0 (by omega), ?_⟩
      cases k with
      | zero => omega
      | succ k =>
        by_cases hk : k = 0
        · subst hk; exact .inl k4
        · exact .inr ⟨k, by omega, by omega, fun j hj => k3 (j + 1) (by omega), k4⟩
theorem cyc_more {g : Graph} (hr : ∀ t ∈ g, rightB g t = true) {i : Nat} (hi : i < g.length) : cycN g i (g.length + 1) i = cycN g i g.length i := by
  rw [Bool.eq_iff_iff, cycN_iff, cycN_iff]
  constructor
  · rintro h
    obtain ⟨k, _, ⟨k1, k2, k3, k4⟩, hmin⟩ := least_exists (p := fun k => 1 ≤ k ∧ k ≤ g.length + 1 ∧ (∀ j, j < k → hasSuperB (getT g (upN g j i)).kind = true) ∧ upN g k i = i) _ h.choose_spec
    refine ⟨k, k1, ?_, k3, k4⟩
    have hrng : ∀ j, j < k → upN g j i < g.length := by
      intro j hj
      induction j with
      | zero => exact hi
      | succ j ih =>
        have h0 := ih (by omega)
        have hs := k3 j (by omega)
        have hf := right_fine (hr _ (getT_mem h0))
        rw [upN_succ]
        have := hf.super hs
        unfold superN
        omega
    have hnd : ((List.range k).map fun j => upN g j i).Nodup := by
      rw [List.nodup_iff_pairwise_ne, List.pairwise_map]
      refine List.Pairwise.imp_of_mem ?_ (List.pairwise_lt_range (n := k))
      intro p q hp hq hpq he
      rw [List.mem_range] at hp hq
      have h2 : upN g (k - q + p) i = i := by
        rw [upN_add, he, ← upN_add, show k - q + q = k by omega]
        exact k4
      exact hmin (k - q + p) (by omega) ⟨by omega, by omega, fun j hj => k3 j (by omega), h2⟩
    have := nodup_length_le (l := List.range g.length) hnd (fun x hx => by
      obtain ⟨j, hj, rfl⟩ := List.mem_map.1 hx
      rw [List.mem_range] at hj ⊢
      exact hrng j hj)
    simpa using this
  · rintro ⟨k, k1, k2, k3, k4⟩
    exact ⟨k, k1, by omega, k3, k4⟩
end Go.Proofs.YtldnjnnhfeobdaaGreatDoor
/- Plain law: a graph that stands beside a well-formed one, its types being turned ones, is well-formed. No condition. -/
namespace Go.Proofs.YtldnjnnhfeobdaaGreatDoor
set_option linter.all false
set_option linter.unusedSimpArgs false
set_option linter.unusedVariables false
open Go.RowKit

/-! ### no walk up is without end -/
theorem cyc_inf {g : Graph} {m i : Nat} (h : cycN g i m i = true) : ∀ k, hasSuperB (getT g (upN g k i)).kind = true := by
  obtain ⟨p, p1, _, p3, p4⟩ := (cycN_iff g i m i).1 h
  intro k
  induction k using Nat.strongRecOn with
  | ind k ih =>
    by_cases hk : k < p
    · exact p3 k hk
    · have := ih (k - p) (by omega)
      have e : upN g k i = upN g (k - p) i := by
        rw [← show k - p + p = k by omega, upN_add, p4, show k - p + p - p = k - p by omega]
      rw [e]; exact this
theorem not_nodup {l : List Nat} : ¬ l.Nodup → ∃ p q, p < q ∧ q < l.length ∧ l[p]? = l[q]? := by
  intro h
  rw [List.nodup_iff_pairwise_ne, List.pairwise_iff_getElem] at h
  have h' : ∃ p q : Nat, ∃ (hp : p < l.length) (hq : q < l.length), p < q ∧ l[p] = l[q] := by
    refine Classical.byContradiction fun hc => h fun p q hp hq hpq he => hc ⟨p, q, hp, hq, hpq, he⟩
  obtain ⟨p, q, hp, hq, hpq, he⟩ := h'
  exact ⟨p, q, hpq, hq, by rw [List.getElem?_eq_getElem hp, List.getElem?_eq_getElem hq, he]⟩
theorem up_rng {g : Graph} (hr : ∀ t ∈ g, rightB g t = true) {i : Nat} (hi : i < g.length) : ∀ k, (∀ j, j < k → hasSuperB (getT g (upN g j i)).kind = true) → upN g k i < g.length
  | 0, _ => hi
  | k + 1, h => by
    have h0 := up_rng hr hi k (fun j hj => h j (by omega))
    have hf := (right_fine (hr _ (getT_mem h0))).super (h k (by omega))
    rw [upN_succ]
    unfold superN
    omega
theorem no_inf {g : Graph} (hg : WF g) {i : Nat} (hi : i < g.length) : ¬ ∀ k, hasSuperB (getT g (upN g k i)).kind = true := by
  intro h
  have hrng : ∀ k, upN g k i < g.length := fun k => up_rng hg.right hi k (fun j _ => h j)
  have hnd : ¬ ((List.range (g.length + 1)).map fun j => upN g j i).Nodup := by
    intro hnd
    have := nodup_length_le (l := List.range g.length) hnd (fun x hx => by
      obtain ⟨j, hj, rfl⟩ := List.mem_map.1 hx
      rw [List.mem_range]
      exact hrng j)
    simp at this
    omega
  obtain ⟨p, q, hpq, hq, he⟩ := not_nodup hnd
  rw [List.length_map, List.length_range] at hq
  simp only [List.getElem?_map, List.getElem?_range (show p < g.length + 1 by omega), List.getElem?_range hq, Option.map_some, Option.some.injEq] at he
  have hc := hg.cyc (upN g p i) (hrng p)
  have : cycN g (upN g p i) g.length (upN g p i) = true := by
    rw [cycN_iff]
    refine ⟨q - p, by omega, by omega, fun j hj => ?_, ?_⟩
    · rw [← upN_add]; exact h _
    · rw [← upN_add, show q - p + p = q by omega, he]
  rw [this] at hc
  cases hc
/-! ### a turned type -/
theorem turn_lens (f : Int → Int) (t : Ty) : (turnT f t).parts.length = t.parts.length ∧ (turnT f t).methods.length = t.methods.length := by simp [turnT]
theorem turn_super {f : Int → Int} {t : Ty} (h : hasSuperB t.kind = false) : (turnT f t).super = t.super := by simp [turnT, h]
theorem turn_super' {f : Int → Int} {t : Ty} (h : hasSuperB t.kind = true) : (turnT f t).super = f t.super := by simp [turnT, h]
theorem turn_names (f : Int → Int) (l : List Part) : (l.map (turnP f)).map Part.name = l.map Part.name := by simp [turnP, Function.comp_def]
theorem turn_mnames (f : Int → Int) (l : List Method) : (l.map (turnM f)).map Method.name = l.map Method.name := by simp [turnM, Function.comp_def]
theorem turn_parts {n m : Nat} {f : Int → Int} {l : List Part} (h : partsB n l = true) (hf : ∀ p ∈ l, 0 ≤ f p.type ∧ f p.type < m) : partsB m (l.map (turnP f)) = true := by
  unfold partsB at h ⊢
  rw [parts_law] at h ⊢
  rw [turn_names, List.length_map]
  simp only [Bool.and_eq_true] at h ⊢
  refine ⟨⟨?_, h.1.2⟩, h.2⟩
  simp only [Bool.not_eq_true', List.any_eq_false, List.mem_map]
  rintro x ⟨p, hp, rfl⟩
  have := hf p hp
  unfold partBad turnP
  simp [hasB_iff.2 this]
theorem turn_meth {n m : Nat} {f : Int → Int} {x : Method} (h : badMethod n x = false) (hf : ∀ r ∈ refsM x, 0 ≤ f r ∧ f r < m) : badMethod m (turnM f x) = false := by
  unfold badMethod at h ⊢
  simp only [Bool.or_eq_false_iff, Bool.not_eq_false'] at h ⊢
  refine ⟨?_, h.2⟩
  obtain ⟨h, _⟩ := h
  unfold sigB at h ⊢
  simp only [Bool.and_eq_true, decide_eq_true_iff, Bool.or_eq_true, Bool.not_eq_true', List.any_eq_false, hasB_iff] at h ⊢
  obtain ⟨⟨h1, h2, h3, h4⟩, h5⟩ := h
  refine ⟨⟨by simpa [turnM] using h1, h2, ?_, ?_⟩, h5⟩
  · unfold turnM
    simp only
    by_cases h0 : 0 ≤ x.result
    · rw [if_pos h0]
      exact .inr (hf _ (by unfold refsM; simp [h0]))
    · rw [if_neg h0]
      rcases h3 with h3 | h3
      · exact .inl h3
      · omega
  · intro y hy
    obtain ⟨a, ha, rfl⟩ := List.mem_map.1 (show y ∈ x.args.map f from hy)
    have := hf a (by unfold refsM; simp [ha])
    simp [hasB_iff.2 this]
theorem over_getT {g : Graph} {i : Int} {ks : List Int} (h : overB g i ks = true) : 0 ≤ i ∧ i < g.length ∧ (ks.any fun y => (getT g i.toNat).kind == y) = true := by
  have hr := overB_rng h
  obtain ⟨n, rfl⟩ := Int.eq_ofNat_of_zero_le hr.1
  have hn : n < g.length := by omega
  refine ⟨hr.1, hr.2, ?_⟩
  unfold overB at h
  rw [Bool.and_eq_true] at h
  rw [Int.toNat_natCast] at h ⊢
  rw [List.getElem?_eq_getElem hn] at h
  rw [getT_lt hn]
  exact h.2
theorem over_mk {g : Graph} {i : Int} {ks : List Int} (h0 : 0 ≤ i) (h1 : i < g.length) (h : (ks.any fun y => (getT g i.toNat).kind == y) = true) : overB g i ks = true := by
  obtain ⟨n, rfl⟩ := Int.eq_ofNat_of_zero_le h0
  have hn : n < g.length := by omega
  unfold overB
  rw [Int.toNat_natCast] at h ⊢
  rw [hasB_iff.2 ⟨h0, h1⟩, Bool.true_and, List.getElem?_eq_getElem hn]
  rw [getT_lt hn] at h
  exact h
theorem refs_super {t : Ty} (h : hasSuperB t.kind = true) : t.super ∈ refsL t := by unfold refsL refsS; rw [h]; simp
theorem meths_false {n : Nat} {l : List Method} {seen : List ByteArray} (h : methsFrom n seen l = true) : ∀ m ∈ l, badMethod n m = false := by
  rw [meths_law] at h
  simp only [Bool.and_eq_true, Bool.not_eq_true', List.any_eq_false] at h
  intro m hm
  have := h.1 m hm
  simpa using this
theorem right_turn {g h : Graph} {t : Ty} {f : Int → Int} (hr : rightB g t = true) (hf : ∀ r ∈ refsL t, 0 ≤ f r ∧ f r < h.length)
    (hk : hasSuperB t.kind = true → (getT h (f t.super).toNat).kind = (getT g t.super.toNat).kind) : rightB h (turnT f t) = true := by
  rw [← said_right] at hr ⊢
  have hp : ∀ p ∈ t.parts, 0 ≤ f p.type ∧ f p.type < h.length := fun p hp => hf _ (refs_part hp)
  have l1 := (turn_lens f t).1
  have l2 := (turn_lens f t).2
  have e1 : numsB (turnT f t) = numsB t := rfl
  have e2 : brandlessB (turnT f t) = brandlessB t := rfl
  have e3 : brandingB (turnT f t) = brandingB t := rfl
  have e4 : clearB (turnT f t) = clearB t := rfl
  have e5 : plainsB (turnT f t) = plainsB t := by unfold plainsB; rw [l2]; rfl
  have e6 : bareB (turnT f t) = bareB t := by unfold bareB; rw [l1]
  have ek : (turnT f t).kind = t.kind := rfl
  have el : (turnT f t).low = t.low := rfl
  have eh : (turnT f t).high = t.high := rfl
  have eo : (turnT f t).opaq = t.opaq := rfl
  have eps : (turnT f t).parts = t.parts.map (turnP f) := rfl
  have et : hasSuperB t.kind = false → topB (turnT f t) = topB t := fun h => by unfold topB; rw [turn_super h]
  unfold saidB at hr ⊢
  rw [ek, el, eh, eo, e1, e2, e3, e4, e5, e6, eps]
  by_cases h3 : t.kind = 3
  · rw [if_pos h3] at hr ⊢
    rw [et (by rw [h3]; rfl)]
    exact hr
  rw [if_neg h3] at hr ⊢
  by_cases h9 : t.kind = 9 ∨ t.kind = 11
  · rw [if_pos h9] at hr ⊢
    rw [et (by rcases h9 with h9 | h9 <;> rw [h9] <;> rfl)]
    simp only [Bool.and_eq_true] at hr ⊢
    obtain ⟨r1, r2, r3, r4, r5⟩ := hr
    refine ⟨r1, r2, r3, ?_, r5⟩
    unfold oneB at r4 ⊢
    simp only [Bool.and_eq_true, decide_eq_true_iff] at r4 ⊢
    match hpp : t.parts with
    | [] => rw [hpp] at r4; simp at r4
    | [p] =>
      rw [hpp] at r4
      rw [eps, hpp]
      have := hp p (by rw [hpp]; simp)
      refine ⟨rfl, r4.2.1, ?_⟩
      exact hasB_iff.2 this
    | p :: q :: r => rw [hpp] at r4; simp at r4
  rw [if_neg h9] at hr ⊢
  by_cases h10 : t.kind = 10
  · rw [if_pos h10] at hr ⊢
    rw [et (by rw [h10]; rfl)]
    simp only [Bool.and_eq_true] at hr ⊢
    obtain ⟨r1, r2, r3, r4, r5, r6⟩ := hr
    exact ⟨r1, r2, r3, by rw [List.length_map]; exact r4, turn_parts r5 hp, r6⟩
  rw [if_neg h10] at hr ⊢
  by_cases h12 : t.kind = 12
  · rw [if_pos h12] at hr ⊢
    have hs : hasSuperB t.kind = true := by rw [h12]; rfl
    rw [turn_super' hs]
    simp only [Bool.and_eq_true] at hr ⊢
    obtain ⟨r1, r2, r3, r4, r5, r6⟩ := hr
    have ho := over_getT r3
    have hsr := hf _ (refs_super hs)
    refine ⟨r1, r2, over_mk hsr.1 hsr.2 (by rw [hk hs]; exact ho.2.2), turn_parts r4 hp, ?_, r6⟩
    unfold methsB at r5 ⊢
    simp only [Bool.and_eq_true] at r5 ⊢
    obtain ⟨m1, m2, m3, m4⟩ := r5
    refine ⟨?_, m2, by rw [l2]; exact m3, m4⟩
    have hb := meths_false m1
    rw [meths_law] at m1 ⊢
    rw [show (turnT f t).methods = t.methods.map (turnM f) from rfl, turn_mnames]
    simp only [Bool.and_eq_true] at m1 ⊢
    refine ⟨?_, m1.2⟩
    simp only [Bool.not_eq_true', List.any_eq_false, List.mem_map]
    rintro x ⟨m, hm, rfl⟩
    rw [turn_meth (hb m hm) (fun r hr => hf r (refs_meth hm hr))]
    simp
  rw [if_neg h12] at hr ⊢
  by_cases h13 : t.kind = 13
  · rw [if_pos h13] at hr ⊢
    have hs : hasSuperB t.kind = true := by rw [h13]; rfl
    rw [turn_super' hs]
    simp only [Bool.and_eq_true] at hr ⊢
    obtain ⟨r1, r2, r3, r4⟩ := hr
    have ho := over_getT r3
    have hsr := hf _ (refs_super hs)
    exact ⟨r1, r2, over_mk hsr.1 hsr.2 (by rw [hk hs]; exact ho.2.2), r4⟩
  rw [if_neg h13] at hr ⊢
  by_cases h1 : 1 ≤ t.kind ∧ t.kind < 14
  · rw [if_pos h1] at hr ⊢
    rw [et (by unfold hasSuperB; simp; omega)]
    exact hr
  · rw [if_neg h1] at hr; cases hr
/-! ### beside a well-formed graph -/
theorem refsN_super {g : Graph} {i : Nat} (h : hasSuperB (getT g i).kind = true) : ∃ r, refsN g i = superN g i :: r := by
  unfold refsN refsL refsS
  rw [h]
  exact ⟨_, rfl⟩
theorem agree_kind {s t : Ty} (h : agreeT s t = true) : s.kind = t.kind := (plainEqB_iff.1 (agreeT_iff.1 h).1).1
theorem beside_super {g h : Graph} {R : Nat → Nat → Prop} (B : Beside g h R) {i j : Nat} (hij : R i j) (hs : hasSuperB (getT g i).kind = true) : R (superN g i) (superN h j) := by
  have hs' : hasSuperB (getT h j).kind = true := by rw [← agree_kind (B.ag i j hij)]; exact hs
  obtain ⟨r, hr⟩ := refsN_super hs
  obtain ⟨q, hq⟩ := refsN_super hs'
  have h := B.rf i j hij
  rw [hr, hq] at h
  cases h with
  | cons h1 _ => exact h1
theorem wf_beside {g h : Graph} {R : Nat → Nat → Prop} (hg : WF g) (hl : h.length ≤ 400) (B : Beside h g R)
    (H : ∀ j, j < h.length → ∃ i f, R j i ∧ getT h j = turnT f (getT g i) ∧ ∀ r ∈ refsL (getT g i), 0 ≤ f r ∧ f r < h.length) : WF h := by
  refine ⟨hl, fun t ht => ?_, fun j hj => ?_⟩
  · obtain ⟨j, hj, rfl⟩ := List.mem_iff_getElem.1 ht
    obtain ⟨i, f, hR, he, hf⟩ := H j hj
    rw [getT_lt hj] at he
    have hi := (B.rng j i hR).2
    rw [he]
    refine right_turn (hg.right _ (getT_mem hi)) hf fun hs => ?_
    have hs' : hasSuperB (getT h j).kind = true := by rw [agree_kind (B.ag j i hR)]; exact hs
    have h2 := agree_kind (B.ag _ _ (beside_super B hR hs'))
    have e : superN h j = (f (getT g i).super).toNat := by
      unfold superN
      rw [getT_lt hj, he, turn_super' hs]
    rw [e] at h2
    exact h2
  · cases hc : cycN h j h.length j with
    | false => rfl
    | true =>
      exfalso
      have hinf := cyc_inf hc
      obtain ⟨i, f, hR, _⟩ := H j hj
      have hup : ∀ k, R (upN h k j) (upN g k i) := by
        intro k
        induction k with
        | zero => exact hR
        | succ k ih => rw [upN_succ, upN_succ]; exact beside_super B ih (hinf k)
      exact no_inf hg (B.rng _ _ hR).2 (fun k => by rw [← agree_kind (B.ag _ _ (hup k))]; exact hinf k)
/-! ### turning keeps what can be compared -/
theorem partEq_turn (f : Int → Int) : ∀ l : List Part, eqF partEq (l.map (turnP f)) l = true
  | [] => rfl
  | p :: l => by simp [eqF, partEq, turnP, partEq_turn f l]
theorem methEq_turn {P : Int → Prop} (f : Int → Int) (hf : ∀ r : Int, 0 ≤ r → P r → 0 ≤ f r) : ∀ l : List Method, (∀ m ∈ l, 0 ≤ m.result → P m.result) → eqF sameMethodB (l.map (turnM f)) l = true
  | [], _ => rfl
  | m :: l, h => by
    rw [List.map_cons, eqF, methEq_turn f hf l (fun m hm => h m (by simp [hm])), Bool.and_true, sameMethodB_iff]
    refine ⟨rfl, rfl, by simp [turnM], ?_, byF_strEq.eqF.refl _⟩
    unfold turnM
    simp only
    by_cases h0 : 0 ≤ m.result
    · rw [if_pos h0]
      have := hf _ h0 (h m (by simp) h0)
      rw [decide_eq_false (by omega), decide_eq_false (by omega)]
    · rw [if_neg h0]
theorem agree_turn {f : Int → Int} {t : Ty} (hf : ∀ r ∈ refsL t, 0 ≤ f r) : agreeT (turnT f t) t = true := by
  rw [agreeT_iff]
  refine ⟨plainEqB_iff.2 ⟨rfl, rfl, rfl, rfl, rfl, rfl⟩, partEq_turn f _, ?_, byF_over.eqF.refl _⟩
  refine methEq_turn (P := fun r => r ∈ refsL t) f (fun r _ hr => hf r hr) _ (fun m hm h0 => refs_meth hm (by unfold refsM; simp [h0]))
theorem refs_turnM {f : Int → Int} {m : Method} (hf : ∀ r ∈ refsM m, 0 ≤ r → 0 ≤ f r) : refsM (turnM f m) = (refsM m).map f := by
  unfold refsM turnM
  simp only [List.map_append]
  congr 1
  by_cases h0 : 0 ≤ m.result
  · have := hf m.result (by unfold refsM; simp [h0]) h0
    rw [if_pos h0, if_pos this, if_pos h0]; rfl
  · rw [if_neg h0, if_neg h0]; rfl
theorem refs_turn {f : Int → Int} {t : Ty} (hf : ∀ r ∈ refsL t, 0 ≤ f r) : refsL (turnT f t) = (refsL t).map f := by
  have hm : ∀ l : List Method, (∀ m ∈ l, ∀ r ∈ refsM m, 0 ≤ f r) → (l.map (turnM f)).flatMap refsM = (l.flatMap refsM).map f := by
    intro l
    induction l with
    | nil => intro _; rfl
    | cons m l ih =>
      intro h
      rw [List.map_cons, List.flatMap_cons, List.flatMap_cons, List.map_append, ih (fun m hm => h m (by simp [hm])), refs_turnM (fun r hr _ => h m (by simp) r hr)]
  unfold refsL
  rw [List.map_append, List.map_append]
  have e1 : refsS (turnT f t) = (refsS t).map f := by
    unfold refsS
    rw [show (turnT f t).kind = t.kind from rfl]
    cases hs : hasSuperB t.kind with
    | true => rw [if_pos rfl, if_pos rfl, turn_super' hs]; rfl
    | false => rfl
  rw [e1, show (turnT f t).methods = t.methods.map (turnM f) from rfl, hm _ (fun m h r hr => hf r (refs_meth h hr))]
  rw [show (turnT f t).parts = t.parts.map (turnP f) from rfl]
  simp [turnP, Function.comp_def]
/-- a graph of turned types stands beside -/
theorem beside_mk {g h : Graph} {R : Nat → Nat → Prop} (hg : WF g) (rng : ∀ j i, R j i → j < h.length ∧ i < g.length)
    (H : ∀ j i, R j i → ∃ f, getT h j = turnT f (getT g i) ∧ ∀ r ∈ refsL (getT g i), 0 ≤ f r ∧ R (f r).toNat r.toNat) : Beside h g R := by
  refine ⟨rng, fun j i hR => ?_, fun j i hR => ?_⟩
  · obtain ⟨f, he, hf⟩ := H j i hR
    rw [he]
    exact agree_turn fun r hr => (hf r hr).1
  · obtain ⟨f, he, hf⟩ := H j i hR
    unfold refsN
    rw [he, refs_turn fun r hr => (hf r hr).1]
    have : ∀ l : List Int, (∀ r ∈ l, R (f r).toNat r.toNat) → All2 R ((l.map f).map Int.toNat) (l.map Int.toNat) := by
      intro l
      induction l with
      | nil => intro _; exact .nil
      | cons r l ih => intro h; exact .cons (h r (by simp)) (ih fun r hr => h r (by simp [hr]))
    exact this _ fun r hr => (hf r hr).2
end Go.Proofs.YtldnjnnhfeobdaaGreatDoor
/- Contracts of the reference: names, symbols, brands. Conditions: lengths below 2^20. -/
namespace Go.Proofs.YtldnjnnhfeobdaaGreatDoor
set_option linter.all false
set_option linter.unusedSimpArgs false
set_option linter.unusedVariables false
open Go.RowKit Go.Shelf

theorem name_bad {s : ByteArray} {k : Nat} (hk : k < s.size) (h : notNameB (s[k].toNat : Int) = true) : isNameB s = false := by
  unfold isNameB isNameL
  have : (byts s).any notNameB = true := List.any_eq_true.2 ⟨(s[k].toNat : Int), by rw [← byts_get s k hk]; exact List.getElem_mem _, h⟩
  rw [this]; simp
theorem name_good {s : ByteArray} (h1 : 1 ≤ s.size) (h2 : s.size ≤ 12) (hh : isLetterB (s[0].toNat : Int) = true) (h : ∀ j (hj : j < s.size), notNameB (s[j].toNat : Int) = false) : isNameB s = true := by
  unfold isNameB isNameL
  rw [byts_head s (by omega), hh, byts_length]
  have hr : inB ((s.size : Nat) : Int) 1 12 = true := by unfold inB; simp; omega
  have : (byts s).any notNameB = false := by
    rw [List.any_eq_false]
    intro x hx
    obtain ⟨i, hi, rfl⟩ := List.mem_iff_getElem.1 hx
    rw [byts_length] at hi
    rw [byts_get s i hi, h i hi]
    simp
  rw [hr, this]; rfl
set_option maxRecDepth 100000 in
set_option maxHeartbeats 4000000 in
theorem rname_any (s : ByteArray) (w : World) (hs : s.size ≤ 1048576) : Calls Tryz.prog 28 #[.string s] w fun e w' => e = .returned (.bool (isNameB s)) ∧ w' = w := by
  by_cases h1 : 1 ≤ s.size
  · by_cases h2 : s.size ≤ 12
    · have p1 : ¬ (s.size : Int) < 1 := by omega
      have p2 : ¬ (12 : Int) < (s.size : Int) := by omega
      cases hh : isLetterB (s[0].toNat : Int) with
      | false =>
        have hb : isNameB s = false := by unfold isNameB isNameL; rw [byts_head s (by omega), hh]; simp
        have Hh := Lib.hid hh
        clear hh
        rw [hb]
        go_enter Tryz.func28, Tryz.ntmps28
        go_wp2_with fail
        refine (letter_any _ _).mono ?_
        rintro e w' ⟨rfl, rfl⟩
        rw [Hh.out]
        go_wp2_with fail
        go_ret
        exact ⟨rfl, rfl⟩
      | true =>
        have Hh := Lib.hid hh
        clear hh
        go_enter Tryz.func28, Tryz.ntmps28
        go_wp2_with fail
        refine (letter_any _ _).mono ?_
        rintro e w' ⟨rfl, rfl⟩
        rw [Hh.out]
        go_wp2_with fail
        go_loopw [3] (fun u wr => ∃ k : Nat, k ≤ s.size ∧ u = .int .i64 k ∧ wr = w ∧ Hid (∀ j (hj : j < s.size), j < k → notNameB (s[j].toNat : Int) = false)) (fun u _ => s.size - (intOf u).toNat)
        case atStart => exact ⟨0, by omega, rfl, rfl, Lib.hid (fun j _ h => by omega)⟩
        case round =>
          obtain ⟨k, hk, rfl, rfl, Hno⟩ := hrel
          by_cases hlt : k < s.size
          · have i0 : (0 : Int) ≤ (k : Int) := by omega
            have i1 : (k : Int) < (s.size : Int) := by omega
            cases hl : isLetterB (s[k].toNat : Int) with
            | true =>
              have Hl := Lib.hid hl
              clear hl
              go_wp2_with fail
              refine (letter_any _ _).mono ?_
              rintro e w' ⟨rfl, rfl⟩
              rw [Hl.out]
              go_wp2_with fail
              go_roundw
              case rel => exact ⟨k + 1, by omega, by go_num, trivial, Lib.hid (fun j hj hjk => if e : j = k then by subst e; unfold notNameB; rw [Hl.out]; rfl else Hno.out j hj (by omega))⟩
              case measure => simp [intOf]; omega
            | false =>
              cases hd : isDigitB (s[k].toNat : Int) with
              | true =>
                have Hl := Lib.hid hl
                have Hd := Lib.hid hd
                clear hl hd
                go_wp2_with fail
                refine (letter_any _ _).mono ?_
                rintro e w' ⟨rfl, rfl⟩
                rw [Hl.out]
                go_wp2_with fail
                refine (digit_any _ _).mono ?_
                rintro e w' ⟨rfl, rfl⟩
                rw [Hd.out]
                go_wp2_with fail
                go_roundw
                case rel => exact ⟨k + 1, by omega, by go_num, trivial, Lib.hid (fun j hj hjk => if e : j = k then by subst e; unfold notNameB; rw [Hl.out, Hd.out]; rfl else Hno.out j hj (by omega))⟩
                case measure => simp [intOf]; omega
              | false =>
                have hb : isNameB s = false := name_bad hlt (by unfold notNameB; rw [hl, hd]; rfl)
                have Hl := Lib.hid hl
                have Hd := Lib.hid hd
                have Hb := Lib.hid hb
                clear hl hd hb
                go_wp2_with fail
                refine (letter_any _ _).mono ?_
                rintro e w' ⟨rfl, rfl⟩
                rw [Hl.out]
                go_wp2_with fail
                refine (digit_any _ _).mono ?_
                rintro e w' ⟨rfl, rfl⟩
                rw [Hd.out]
                go_wp2_with fail
                go_ret
                rw [Hb.out]
                exact ⟨rfl, rfl⟩
          · have hb : isNameB s = true := name_good h1 h2 Hh.out (fun j hj => Hno.out j hj (by omega))
            have i1 : ¬ (k : Int) < (s.size : Int) := by omega
            have Hb := Lib.hid hb
            clear hb
            go_wp2_with fail
            go_ret
            rw [Hb.out]
            exact ⟨rfl, rfl⟩
    · have p1 : ¬ (s.size : Int) < 1 := by omega
      have p2 : (12 : Int) < (s.size : Int) := by omega
      have hb : isNameB s = false := by
        unfold isNameB isNameL
        have hr : inB ((byts s).length : Int) 1 12 = false := by rw [byts_length]; unfold inB; simp; omega
        rw [hr]; rfl
      rw [hb]
      go_enter Tryz.func28, Tryz.ntmps28
      go_wp2_with fail
      go_ret
      exact ⟨rfl, rfl⟩
  · have p1 : (s.size : Int) < 1 := by omega
    have hb : isNameB s = false := by
      unfold isNameB isNameL
      have hr : inB ((byts s).length : Int) 1 12 = false := by rw [byts_length]; unfold inB; simp; omega
      rw [hr]; rfl
    rw [hb]
    go_enter Tryz.func28, Tryz.ntmps28
    go_wp2_with fail
    go_ret
    exact ⟨rfl, rfl⟩
theorem dot_uniq : ∀ {a a' b b' : List UInt8}, a ++ 46 :: b = a' ++ 46 :: b' → (46 : UInt8) ∉ a → (46 : UInt8) ∉ a' → a = a' ∧ b = b'
  | [], [], _, _, h, _, _ => by simp at h; exact ⟨rfl, h⟩
  | [], x :: a', _, _, h, _, h2 => by simp at h; exact absurd h.1 (fun e => h2 (by simp [e]))
  | x :: a, [], _, _, h, h1, _ => by simp at h; exact absurd h.1 (fun e => h1 (by simp [e]))
  | x :: a, y :: a', b, b', h, h1, h2 => by
    simp at h
    obtain ⟨e1, e2⟩ := dot_uniq h.2 (fun hm => h1 (by simp [hm])) (fun hm => h2 (by simp [hm]))
    exact ⟨by rw [h.1, e1], e2⟩
theorem symbol_dot {s : ByteArray} {a b : List UInt8} (h : s.data.toList = a ++ 46 :: b) (hn : (46 : UInt8) ∉ a) : isSymbolB s = (isNameB ⟨a.toArray⟩ && isNameB ⟨b.toArray⟩) := by
  rcases index_dot s.data.toList with ⟨_, h5⟩ | ⟨a', b', h4, h5, h6⟩
  · exact absurd (by rw [h]; simp) h5
  · obtain ⟨rfl, rfl⟩ := dot_uniq (h.symm.trans h4) hn h5
    have e : Lib.cut s.data.toList [46] = (a, b, true) := by
      unfold Lib.cut
      rw [h6, if_pos (by omega), h4]
      simp
    unfold isSymbolB cutB
    rw [e]; rfl
theorem symbol_none {s : ByteArray} (h : (46 : UInt8) ∉ s.data.toList) : isSymbolB s = false := by
  rcases index_dot s.data.toList with ⟨h4, _⟩ | ⟨a', b', h4, h5, h6⟩
  · unfold isSymbolB cutB Lib.cut
    rw [h4, if_neg (by decide)]
    rfl
  · exact absurd (by rw [h4]; simp) h
theorem byte_at (s : ByteArray) (j : Nat) (hj : j < s.size) : s.data.toList[j]'(by rw [toList_length]; exact hj) = s[j] := by simp; rfl
theorem symbol_at {s : ByteArray} {k : Nat} (hk : k < s.size) (h : (s[k].toNat : Int) = 46) (hno : ∀ j (hj : j < s.size), j < k → (s[j].toNat : Int) ≠ 46) :
    isSymbolB s = (isNameB (s.extract 0 k) && isNameB (s.extract (k + 1) s.size)) := by
  have hlen := toList_length s
  have e46 : s[k] = 46 := by
    apply UInt8.toNat_inj.1
    have : s[k].toNat = 46 := by omega
    rw [this]; rfl
  have hsplit : s.data.toList = s.data.toList.take k ++ 46 :: s.data.toList.drop (k + 1) := by
    have h1 := List.take_append_drop k s.data.toList
    rw [List.drop_eq_getElem_cons (by rw [hlen]; exact hk), byte_at s k hk, e46] at h1
    exact h1.symm
  have hn : (46 : UInt8) ∉ s.data.toList.take k := by
    intro hm
    obtain ⟨j, hj, e⟩ := List.mem_iff_getElem.1 hm
    rw [List.length_take] at hj
    rw [List.getElem_take, byte_at s j (by omega)] at e
    exact hno j (by omega) (by omega) (by rw [e]; rfl)
  rw [symbol_dot hsplit hn]
  have e1 : (⟨(s.data.toList.take k).toArray⟩ : ByteArray) = s.extract 0 k := by
    apply ByteArray.ext
    apply Array.toList_inj.1
    simp [ByteArray.data_extract, List.extract]
  have e2 : (⟨(s.data.toList.drop (k + 1)).toArray⟩ : ByteArray) = s.extract (k + 1) s.size := by
    apply ByteArray.ext
    apply Array.toList_inj.1
    simp [ByteArray.data_extract, List.extract]
    rw [List.take_of_length_le]
    rw [List.length_drop, hlen]
    omega
  rw [e1, e2]
set_option maxRecDepth 100000 in
set_option maxHeartbeats 4000000 in
theorem rsymbol_any (s : ByteArray) (w : World) (hs : s.size ≤ 1048576) : Calls Tryz.prog 30 #[.string s] w fun e w' => e = .returned (.bool (isSymbolB s)) ∧ w' = w := by
  go_enter Tryz.func30, Tryz.ntmps30
  go_wp2_with fail
  go_loopw [3] (fun u wr => ∃ k : Nat, k ≤ s.size ∧ u = .int .i64 k ∧ wr = w ∧ Hid (∀ j (hj : j < s.size), j < k → (s[j].toNat : Int) ≠ 46)) (fun u _ => s.size - (intOf u).toNat)
  case atStart => exact ⟨0, by omega, rfl, rfl, Lib.hid (fun j _ h => by omega)⟩
  case round =>
    obtain ⟨k, hk, rfl, rfl, Hno⟩ := hrel
    by_cases hlt : k < s.size
    · have i0 : (0 : Int) ≤ (k : Int) := by omega
      have i1 : (k : Int) < (s.size : Int) := by omega
      by_cases hd : (s[k].toNat : Int) = 46
      · have hd' : ((s[k].toNat : Int) == 46) = true := by simpa using hd
        go_wp2_with fail
        have hsym := symbol_at hlt hd (fun j hj hjk => Hno.out j hj hjk)
        refine (rname_any _ _ (by simp; omega)).mono ?_
        rintro e w' ⟨rfl, rfl⟩
        cases h1 : isNameB (s.extract 0 k) with
        | false =>
          rw [h1, Bool.false_and] at hsym
          have Hs := Lib.hid hsym
          clear hsym h1
          go_wp2_with fail
          go_ret
          rw [Hs.out]
          exact ⟨rfl, rfl⟩
        | true =>
          rw [h1, Bool.true_and] at hsym
          have Hs := Lib.hid hsym
          clear hsym h1
          go_wp2_with fail
          refine (rname_any _ _ (by simp; omega)).mono ?_
          rintro e w' ⟨rfl, rfl⟩
          rw [← Hs.out]
          go_wp2_with fail
          go_ret
          exact ⟨rfl, rfl⟩
      · have hd' : ((s[k].toNat : Int) == 46) = false := by rw [beq_eq_false_iff_ne]; exact hd
        have Hd := Lib.hid hd
        clear hd
        go_wp2_with fail
        go_roundw
        case rel => exact ⟨k + 1, by omega, by go_num, trivial, Lib.hid (fun j hj hjk => if e : j = k then by subst e; exact Hd.out else Hno.out j hj (by omega))⟩
        case measure => simp [intOf]; omega
    · have i1 : ¬ (k : Int) < (s.size : Int) := by omega
      have hb : isSymbolB s = false := symbol_none (fun hm => by
        obtain ⟨j, hj, e⟩ := List.mem_iff_getElem.1 hm
        have hjs : j < s.size := by rw [toList_length] at hj; exact hj
        rw [byte_at s j hjs] at e
        exact Hno.out j hjs (by omega) (by rw [e]; rfl))
      have Hb := Lib.hid hb
      clear hb
      go_wp2_with fail
      go_ret
      rw [Hb.out]
      exact ⟨rfl, rfl⟩
end Go.Proofs.YtldnjnnhfeobdaaGreatDoor
/- Contracts of the reference: equal lists of strings, signatures, parts. Conditions: lengths below 2^20. -/
namespace Go.Proofs.YtldnjnnhfeobdaaGreatDoor
set_option linter.all false
set_option linter.unusedSimpArgs false
set_option linter.unusedVariables false
open Go.RowKit Go.Shelf

set_option maxRecDepth 100000 in
set_option maxHeartbeats 4000000 in
theorem rstrings_any (w : World) (u v : Value) (xs ys : List ByteArray) (hu : Sl strE w u xs) (hv : Sl strE w v ys) (hx : xs.length ≤ 1048576) (hy : ys.length ≤ 1048576) :
    Calls Tryz.prog 86 #[u, v] w (Ret w (.bool (eqF strEq xs ys))) := by
  obtain ⟨A, ca, rfl, ha⟩ := hu.str
  obtain ⟨B, cb, rfl, hb⟩ := hv.str
  have Ha := Lib.hid ha
  have Hb := Lib.hid hb
  clear ha hb hu hv
  by_cases hl : xs.length = ys.length
  · have hl' : ((xs.length : Int) == (ys.length : Int)) = true := by simp; omega
    have hln : ((xs.length : Int) != (ys.length : Int)) = false := by simp; omega
    obtain ⟨wo, rfl⟩ : ∃ wo : World, wo = w := ⟨_, rfl⟩
    go_enter Tryz.func86, Tryz.ntmps86
    go_wp2_with fail
    go_loopw [5] (fun u wr => ∃ k : Nat, k ≤ xs.length ∧ u = .int .i64 k ∧ Hid (Ext wo wr) ∧ Hid (∀ j (h1 : j < xs.length) (h2 : j < ys.length), j < k → strEq xs[j] ys[j] = true)) (fun u _ => xs.length - (intOf u).toNat)
    case atStart => exact ⟨0, by omega, rfl, Lib.hid (Ext.refl _), Lib.hid (fun j _ _ h => by omega)⟩
    case round =>
      obtain ⟨k, hk, rfl, Hx, Hno⟩ := hrel
      by_cases hlt : k < xs.length
      · obtain ⟨b1, o1, rfl, c1⟩ := Ha.out k hlt
        obtain ⟨b2, o2, rfl, c2⟩ := Hb.out k (by omega)
        replace c1 := Hx.out.cell c1
        replace c2 := Hx.out.cell c2
        have l1 := cell_lt c1
        have l2 := cell_lt c2
        have i0 : (0 : Int) ≤ (k : Int) := by omega
        have i1 : (k : Int) < (xs.length : Int) := by omega
        have i2 : (k : Int) < (ys.length : Int) := by omega
        have hlt2 : k < ys.length := by omega
        have Hs := Lib.hid (show strEq xs[k] ys[k] = (xs[k].toList == ys[k].toList) from rfl)
        cases he : (xs[k].toList == ys[k].toList) with
        | true =>
          have Hse := Lib.hid (Hs.out.trans he)
          have hnext := fun j (h1 : j < xs.length) (h2 : j < ys.length) (hjk : j < k + 1) => if e : j = k then (by subst e; exact Hse.out : strEq xs[j] ys[j] = true) else Hno.out j h1 h2 (by omega)
          have Hn := Lib.hid hnext
          have he2 : xs[k].toList = ys[k].toList := by simpa using he
          clear hnext
          go_wp2_with fail
          go_quiet (fail)
          go_wp2_with fail
          go_roundw
          case rel => exact ⟨k + 1, by omega, by go_num, Lib.hid (Hx.out.drewN _), Hn⟩
          case measure => simp [intOf]; omega
        | false =>
          have hf : eqF strEq xs ys = false := eqF_no hlt hlt2 (Hs.out.trans he)
          have he2 : ¬ xs[k].toList = ys[k].toList := by simpa using he
          have he3 : (xs[k].toList != ys[k].toList) = true := by simpa using he
          have Hf := Lib.hid hf
          clear hf Hs
          generalize xs[k] = x at *
          generalize ys[k] = y at *
          go_wp2_with fail
          go_quiet (fail)
          go_wp2_with fail
          go_ret
          rw [Hf.out]
          exact ⟨rfl, Hx.out.drewN _⟩
      · have i1 : ¬ (k : Int) < (xs.length : Int) := by omega
        have hf : eqF strEq xs ys = true := eqF_yes hl (j := k) hlt (fun i h1 h2 h3 => Hno.out i h1 h2 h3)
        have Hf := Lib.hid hf
        clear hf
        go_wp2_with fail
        go_ret
        rw [Hf.out]
        exact ⟨rfl, Hx.out⟩
  · have hln : ((xs.length : Int) != (ys.length : Int)) = true := by simp; omega
    have hf : eqF strEq xs ys = false := eqF_len hl
    rw [hf]
    go_enter Tryz.func86, Tryz.ntmps86
    go_wp2_with fail
    go_ret
    exact ⟨rfl, Ext.refl _⟩
theorem sig_long {n : Nat} {m : Method} (h : 6 < m.args.length ∨ 6 < m.raises.length ∨ m.result < -1 ∨ (n : Int) ≤ m.result) : sigB n m = false := by
  cases hb : sigB n m with
  | false => rfl
  | true =>
    unfold sigB at hb
    simp only [Bool.and_eq_true, decide_eq_true_iff, Bool.or_eq_true, hasB_iff] at hb
    omega
theorem sig_arg {n : Nat} {m : Method} {k : Nat} (hk : k < m.args.length) (h : m.args[k] < 0 ∨ (n : Int) ≤ m.args[k]) : sigB n m = false := by
  cases hb : sigB n m with
  | false => rfl
  | true =>
    unfold sigB at hb
    simp only [Bool.and_eq_true, Bool.not_eq_true', List.any_eq_false] at hb
    have := hb.1.2.2.2 _ (List.getElem_mem hk)
    have h2 : hasB n m.args[k] = true := by simpa using this
    rw [hasB_iff] at h2
    omega
theorem sig_rest {n : Nat} {m : Method} (h1 : ¬ 6 < m.args.length) (h2 : ¬ 6 < m.raises.length) (h3 : ¬ m.result < -1) (h4 : ¬ (n : Int) ≤ m.result)
    (h5 : ∀ j (hj : j < m.args.length), 0 ≤ m.args[j] ∧ m.args[j] < n) : sigB n m = raisesFrom none m.raises := by
  unfold sigB
  have e1 : decide (m.args.length ≤ 6) = true := decide_eq_true (by omega)
  have e2 : decide (m.raises.length ≤ 6) = true := decide_eq_true (by omega)
  have e3 : (decide (m.result = -1) || hasB n m.result) = true := by
    by_cases h : m.result = -1
    · simp [h]
    · rw [Bool.or_eq_true]; exact .inr (hasB_iff.2 (by omega))
  have e4 : (m.args.any fun i => !hasB n i) = false := by
    rw [List.any_eq_false]
    intro x hx
    obtain ⟨j, hj, rfl⟩ := List.mem_iff_getElem.1 hx
    simp [hasB_iff.2 (h5 j hj)]
  rw [e1, e2, e3, e4]
  rfl
set_option maxRecDepth 100000 in
set_option maxHeartbeats 8000000 in
theorem rsig_any (w : World) (A : Option Addr) (n cap : Nat) (m : Method) (va vr : Value) (hn : n ≤ 1048576) (ha : Sl intE w va m.args) (hr : Sl strE w vr m.raises)
    (hal : m.args.length ≤ 1048576) (hrl : m.raises.length ≤ 1048576) (hrs : ∀ r ∈ m.raises, r.size ≤ 1048576) :
    Calls Tryz.prog 161 #[.slice A n cap, .agg #[va, .int .i64 m.result, vr]] w (Ret w (.bool (sigB n m))) := by
  obtain ⟨Aa, ca, rfl, hca⟩ := ha.int
  obtain ⟨Ar, cr, rfl, hcr⟩ := hr.str
  have Hca := Lib.hid hca
  have Hcr := Lib.hid hcr
  have Hrs := Lib.hid hrs
  clear ha hr hca hcr hrs
  by_cases h1 : 6 < m.args.length
  · have p1 : (6 : Int) < (m.args.length : Int) := by omega
    rw [sig_long (.inl h1)]
    go_enter Tryz.func161, Tryz.ntmps161
    go_wp2_with fail
    go_ret
    exact ⟨rfl, (Ext.refl _).alloc _⟩
  by_cases h2 : 6 < m.raises.length
  · have p1 : ¬ (6 : Int) < (m.args.length : Int) := by omega
    have p2 : (6 : Int) < (m.raises.length : Int) := by omega
    rw [sig_long (.inr (.inl h2))]
    go_enter Tryz.func161, Tryz.ntmps161
    go_wp2_with fail
    go_ret
    exact ⟨rfl, (Ext.refl _).alloc _⟩
  by_cases h3 : m.result < -1
  · have p1 : ¬ (6 : Int) < (m.args.length : Int) := by omega
    have p2 : ¬ (6 : Int) < (m.raises.length : Int) := by omega
    rw [sig_long (.inr (.inr (.inl h3)))]
    go_enter Tryz.func161, Tryz.ntmps161
    go_wp2_with fail
    go_ret
    exact ⟨rfl, (Ext.refl _).alloc _⟩
  by_cases h4 : (n : Int) ≤ m.result
  · have p1 : ¬ (6 : Int) < (m.args.length : Int) := by omega
    have p2 : ¬ (6 : Int) < (m.raises.length : Int) := by omega
    rw [sig_long (.inr (.inr (.inr h4)))]
    go_enter Tryz.func161, Tryz.ntmps161
    go_wp2_with fail
    go_ret
    exact ⟨rfl, (Ext.refl _).alloc _⟩
  have p1 : ¬ (6 : Int) < (m.args.length : Int) := by omega
  have p2 : ¬ (6 : Int) < (m.raises.length : Int) := by omega
  have hx0 := (Ext.refl w).alloc (.cells #[.slice Aa m.args.length ca, .int .i64 m.result, .slice Ar m.raises.length cr] 72)
  have hbx := heap_alloc_self w (.cells #[.slice Aa m.args.length ca, .int .i64 m.result, .slice Ar m.raises.length cr] 72)
  have Hc0 := Lib.hid (heap_cell hbx 0 _ rfl)
  have Hc2 := Lib.hid (heap_cell hbx 2 _ rfl)
  have Hx0 := Lib.hid hx0
  have Hrest := Lib.hid (fun h5 => sig_rest (n := n) h1 h2 h3 h4 h5)
  clear hx0 hbx
  go_enter Tryz.func161, Tryz.ntmps161
  go_wp2_with fail
  generalize (w.alloc (.cells #[.slice Aa m.args.length ca, .int .i64 m.result, .slice Ar m.raises.length cr] 72)) = w1 at *
  generalize w.heap.size = b1 at *
  go_loopw [5] (fun u wr => ∃ k : Nat, k ≤ m.args.length ∧ u = .int .i64 k ∧ wr = w1 ∧ Hid (∀ j (hj : j < m.args.length), j < k → 0 ≤ m.args[j] ∧ m.args[j] < n)) (fun u _ => m.args.length - (intOf u).toNat)
  case atStart => exact ⟨0, by omega, rfl, rfl, Lib.hid (fun j _ h => by omega)⟩
  case round =>
    obtain ⟨k, hk, rfl, rfl, Hno⟩ := hrel
    have d0 := Hc0.out
    have l0 := cell_lt d0
    by_cases hlt : k < m.args.length
    · obtain ⟨b, off, rfl, a0⟩ := Hca.out k hlt
      replace a0 := Hx0.out.cell a0
      have la := cell_lt a0
      have i0 : (0 : Int) ≤ (k : Int) := by omega
      have i1 : (k : Int) < (m.args.length : Int) := by omega
      have hbad := sig_arg (n := n) hlt
      have hnext := fun (h : 0 ≤ m.args[k] ∧ m.args[k] < n) j (hj : j < m.args.length) (hjk : j < k + 1) => if e : j = k then (by subst e; exact h : 0 ≤ m.args[j] ∧ m.args[j] < n) else Hno.out j hj (by omega)
      have Hbad := Lib.hid hbad
      have Hnext := Lib.hid hnext
      clear hbad hnext
      generalize m.args[k] = x at *
      by_cases c1 : x < 0
      · have Hb := Lib.hid (Hbad.out (.inl c1))
        go_wp2_with fail
        go_ret
        rw [Hb.out]
        exact ⟨rfl, Hx0.out⟩
      · by_cases c2 : (n : Int) ≤ x
        · have Hb := Lib.hid (Hbad.out (.inr c2))
          go_wp2_with fail
          go_ret
          rw [Hb.out]
          exact ⟨rfl, Hx0.out⟩
        · have Hn := Lib.hid (Hnext.out (by omega))
          go_wp2_with fail
          go_roundw
          case rel => exact ⟨k + 1, by omega, by go_num, trivial, Hn⟩
          case measure => simp [intOf]; omega
    · have hrest := Hrest.out (fun j hj => Hno.out j hj (by omega))
      have i1 : ¬ (k : Int) < (m.args.length : Int) := by omega
      have Hsig := Lib.hid hrest
      clear hrest Hno hk
      go_wp2_with fail
      obtain ⟨wa, rfl⟩ : ∃ wa : World, wa = wr := ⟨_, rfl⟩
      go_loopw [6] (fun u wr => ∃ k : Nat, k ≤ m.raises.length ∧ u = .int .i64 k ∧ Hid (Ext wa wr) ∧ Hid (raisesFrom none m.raises = raisesFrom (prevAt m.raises k) (m.raises.drop k))) (fun u _ => m.raises.length - (intOf u).toNat)
      case atStart => exact ⟨0, by omega, rfl, Lib.hid (Ext.refl _), by simp [Hid, prevAt]⟩
      case round =>
        clear d0 l0
        obtain ⟨k, hk, rfl, Hx, Hinv⟩ := hrel
        have d2 := Hx.out.cell Hc2.out
        have l2 := cell_lt d2
        by_cases hlt : k < m.raises.length
        · obtain ⟨b, off, rfl, a0⟩ := Hcr.out k hlt
          replace a0 := (Hx0.out.trans Hx.out).cell a0
          have la := cell_lt a0
          have i0 : (0 : Int) ≤ (k : Int) := by omega
          have i1 : (k : Int) < (m.raises.length : Int) := by omega
          have Hinv2 : Hid (raisesFrom none m.raises = (raiseOk (prevAt m.raises k) m.raises[k] && raisesFrom (prevAt m.raises (k + 1)) (m.raises.drop (k + 1)))) := by
            rw [Hinv.out, raises_step _ _ hlt]; rfl
          have Hal := Lib.hid (show (m.raises[k].toList == [65, 76, 69, 82, 84, 69, 68]) = strEq m.raises[k] alerted by rw [← alerted_toList]; rfl)
          have hsz := Hrs.out _ (List.getElem_mem hlt)
          have Hsy := Lib.hid (fun w => rsymbol_any m.raises[k] w hsz)
          have Hbad := Lib.hid (fun (h : raiseOk (prevAt m.raises k) m.raises[k] = false) => (Hsig.out.trans (Hinv2.out.trans (by rw [h]; rfl)) : sigB n m = false))
          have Hgood := Lib.hid (fun (h : raiseOk (prevAt m.raises k) m.raises[k] = true) => (Hinv2.out.trans (by rw [h]; exact Bool.true_and _) : raisesFrom none m.raises = raisesFrom (prevAt m.raises (k + 1)) (m.raises.drop (k + 1))))
          have hprev : ∃ pl : Bool, Hid (raiseOk (prevAt m.raises k) m.raises[k] = ((strEq m.raises[k] alerted || isSymbolB m.raises[k]) && pl)) ∧
              (k = 0 ∧ pl = true ∨ ∃ i, k = i + 1 ∧ ∃ (hi : i < m.raises.length), Op.bytesLess m.raises[i].toList m.raises[k].toList = pl) := by
            cases k with
            | zero => exact ⟨true, rfl, .inl ⟨rfl, rfl⟩⟩
            | succ i => exact ⟨lessB m.raises[i] m.raises[i + 1], by simp only [Hid, raiseOk, prevAt_pos _ _ hlt], .inr ⟨i, rfl, by omega, rfl⟩⟩
          obtain ⟨pl, Hro, hpl⟩ := hprev
          clear Hinv Hinv2
          generalize hr : m.raises[k] = r at *
          generalize strEq r alerted = al at Hal Hro
          generalize isSymbolB r = sy at Hsy Hro
          have hal := Hal.out
          clear Hal hsz hr
          cases al with
          | false =>
            have hal2 : ¬ r.toList = [65, 76, 69, 82, 84, 69, 68] := by simpa using hal
            have hal3 : (r.toList != [65, 76, 69, 82, 84, 69, 68]) = true := by simpa using hal
            cases sy with
            | false =>
              have Hb := Lib.hid (Hbad.out Hro.out)
              go_wp2_with fail
              go_quiet ((go_at_call 30; exact Calls.quiet_of_same (Hsy.out _)))
              go_wp2_with fail
              go_ret
              rw [Hb.out]
              exact ⟨rfl, Hx0.out.trans (Hx.out.drewN _)⟩
            | true =>
              rcases hpl with ⟨rfl, rfl⟩ | ⟨i, rfl, hi, hless⟩
              · have Hg := Lib.hid (Hgood.out Hro.out)
                have j0 : decide ((0 : Int) < ((0 : Nat) : Int)) = false := rfl
                simp only [Nat.add_zero] at a0 la
                clear Hro
                go_wp2_with fail
                go_quiet ((go_at_call 30; exact Calls.quiet_of_same (Hsy.out _)))
                go_wp2_with fail
                go_roundw
                case rel => exact ⟨1, by omega, by go_num, Lib.hid (Hx.out.drewN _), Hg⟩
                case measure => simp [intOf]; omega
              · obtain ⟨b', off', hb', a1⟩ := Hcr.out i hi
                cases hb'
                replace a1 := (Hx0.out.trans Hx.out).cell a1
                generalize m.raises[i] = p at *
                have j0 : decide ((0 : Int) < ((i + 1 : Nat) : Int)) = true := decide_eq_true (by omega)
                have j1 : (0 : Int) < ((i + 1 : Nat) : Int) := by omega
                cases pl with
                | true =>
                  have Hg := Lib.hid (Hgood.out Hro.out)
                  clear Hro
                  go_wp2_with fail
                  go_quiet ((go_at_call 30; exact Calls.quiet_of_same (Hsy.out _)))
                  go_wp2_with fail
                  go_roundw
                  case rel => exact ⟨i + 1 + 1, by omega, by go_num, Lib.hid (Hx.out.drewN _), Hg⟩
                  case measure => simp [intOf]; omega
                | false =>
                  have Hb := Lib.hid (Hbad.out Hro.out)
                  clear Hro
                  go_wp2_with fail
                  go_quiet ((go_at_call 30; exact Calls.quiet_of_same (Hsy.out _)))
                  go_wp2_with fail
                  go_ret
                  rw [Hb.out]
                  exact ⟨rfl, Hx0.out.trans (Hx.out.drewN _)⟩
          | true =>
            have hal3 : (r.toList != [65, 76, 69, 82, 84, 69, 68]) = false := by simpa using hal
            rcases hpl with ⟨rfl, rfl⟩ | ⟨i, rfl, hi, hless⟩
            · have Hg := Lib.hid (Hgood.out Hro.out)
              have j0 : decide ((0 : Int) < ((0 : Nat) : Int)) = false := rfl
              simp only [Nat.add_zero] at a0 la
              clear Hro
              go_wp2_with fail
              go_quiet (fail)
              go_wp2_with fail
              go_roundw
              case rel => exact ⟨1, by omega, by go_num, Lib.hid (Hx.out.drewN _), Hg⟩
              case measure => simp [intOf]; omega
            · obtain ⟨b', off', hb', a1⟩ := Hcr.out i hi
              cases hb'
              replace a1 := (Hx0.out.trans Hx.out).cell a1
              generalize m.raises[i] = p at *
              have j0 : decide ((0 : Int) < ((i + 1 : Nat) : Int)) = true := decide_eq_true (by omega)
              have j1 : (0 : Int) < ((i + 1 : Nat) : Int) := by omega
              cases pl with
              | true =>
                have Hg := Lib.hid (Hgood.out Hro.out)
                clear Hro
                go_wp2_with fail
                go_quiet (fail)
                go_wp2_with fail
                go_roundw
                case rel => exact ⟨i + 1 + 1, by omega, by go_num, Lib.hid (Hx.out.drewN _), Hg⟩
                case measure => simp [intOf]; omega
              | false =>
                have Hb := Lib.hid (Hbad.out Hro.out)
                clear Hro
                go_wp2_with fail
                go_quiet (fail)
                go_wp2_with fail
                go_ret
                rw [Hb.out]
                exact ⟨rfl, Hx0.out.trans (Hx.out.drewN _)⟩
        · have hf : raisesFrom none m.raises = true := by rw [Hinv.out, List.drop_of_length_le (by omega)]; rfl
          have i1 : ¬ (k : Int) < (m.raises.length : Int) := by omega
          have Hf := Lib.hid (Hsig.out.trans hf)
          clear hf
          go_wp2_with fail
          go_ret
          rw [Hf.out]
          exact ⟨rfl, Hx0.out.trans Hx.out⟩
end Go.Proofs.YtldnjnnhfeobdaaGreatDoor
/- Contract of the reference: two types agree at once. Conditions: lengths below 2^20. -/
namespace Go.Proofs.YtldnjnnhfeobdaaGreatDoor
set_option linter.all false
set_option linter.unusedSimpArgs false
set_option linter.unusedVariables false
open Go.RowKit Go.Shelf

theorem agree_no1 {x y : Ty} (h : plainEqB x y = false) : agreeT x y = false := by unfold agreeT; rw [h]; rfl
theorem agree_no2 {x y : Ty} (h : eqF partEq x.parts y.parts = false) : agreeT x y = false := by unfold agreeT; rw [h]; simp
theorem agree_no3 {x y : Ty} (h : eqF sameMethodB x.methods y.methods = false) : agreeT x y = false := by unfold agreeT; rw [h]; simp
theorem agree_no4 {x y : Ty} (h : eqF overEq x.overs y.overs = false) : agreeT x y = false := by unfold agreeT; rw [h]; simp
theorem agree_yes {x y : Ty} (h1 : plainEqB x y = true) (h2 : eqF partEq x.parts y.parts = true) (h3 : eqF sameMethodB x.methods y.methods = true) (h4 : eqF overEq x.overs y.overs = true) : agreeT x y = true := by
  unfold agreeT; rw [h1, h2, h3, h4]; rfl
set_option maxRecDepth 100000 in
set_option maxHeartbeats 16000000 in
theorem ragree_any (w : World) (x y : Ty) (xp xm xo yp ym yo : Value) (hx : TySmall x) (hy : TySmall y) (hox : TyOf w x xp xm xo) (hoy : TyOf w y yp ym yo) :
    Calls Tryz.prog 41 #[tyV x xp xm xo, tyV y yp ym yo] w (Ret w (.bool (agreeT x y))) := by
  obtain ⟨A1, a1, e1, xps⟩ := hox.parts.part
  obtain ⟨A2, a2, e2, xms⟩ := hox.methods.method
  obtain ⟨A3, a3, e3, xos⟩ := hox.overs.over
  subst e1 e2 e3
  obtain ⟨B1, b1, e1, yps⟩ := hoy.parts.part
  obtain ⟨B2, b2, e2, yms⟩ := hoy.methods.method
  obtain ⟨B3, b3, e3, yos⟩ := hoy.overs.over
  subst e1 e2 e3
  have Xps := Lib.hid xps
  have Xms := Lib.hid xms
  have Xos := Lib.hid xos
  have Yps := Lib.hid yps
  have Yms := Lib.hid yms
  have Yos := Lib.hid yos
  have Xmm := Lib.hid hx.method
  have Ymm := Lib.hid hy.method
  have q1 := hx.parts
  have q2 := hx.methods
  have q3 := hx.overs
  have q4 := hy.parts
  have q5 := hy.methods
  have q6 := hy.overs
  clear xps xms xos yps yms yos hox hoy hx hy
  unfold tyV
  by_cases h0 : x.kind = y.kind
  case neg =>
    as_aux_lemma =>
      have p0 : (x.kind != y.kind) = true := by simpa using h0
      have r0 : (x.kind == y.kind) = false := by simpa using h0
      have hv : agreeT x y = false := agree_no1 (by cases hb : plainEqB x y with | false => rfl | true => exact absurd (plainEqB_iff.1 hb).1 h0)
      have Hv := Lib.hid hv
      clear hv h0
      go_enter Tryz.func41, Tryz.ntmps41
      go_wp2_with fail
      go_ret
      rw [Hv.out]
      exact ⟨rfl, ((Ext.refl _).alloc _).alloc _⟩
  have p0 : (x.kind != y.kind) = false := by simpa using h0
  have r0 : (x.kind == y.kind) = true := by simpa using h0
  by_cases h1 : x.low = y.low
  case neg =>
    as_aux_lemma =>
      have p1 : (x.low != y.low) = true := by simpa using h1
      have r1 : (x.low == y.low) = false := by simpa using h1
      have hv : agreeT x y = false := agree_no1 (by cases hb : plainEqB x y with | false => rfl | true => exact absurd (plainEqB_iff.1 hb).2.1 h1)
      have Hv := Lib.hid hv
      clear hv h0 h1
      go_enter Tryz.func41, Tryz.ntmps41
      go_wp2_with fail
      go_ret
      rw [Hv.out]
      exact ⟨rfl, ((Ext.refl _).alloc _).alloc _⟩
  have p1 : (x.low != y.low) = false := by simpa using h1
  have r1 : (x.low == y.low) = true := by simpa using h1
  by_cases h2 : x.high = y.high
  case neg =>
    as_aux_lemma =>
      have p2 : (x.high != y.high) = true := by simpa using h2
      have r2 : (x.high == y.high) = false := by simpa using h2
      have hv : agreeT x y = false := agree_no1 (by cases hb : plainEqB x y with | false => rfl | true => exact absurd (plainEqB_iff.1 hb).2.2.1 h2)
      have Hv := Lib.hid hv
      clear hv h0 h1 h2
      go_enter Tryz.func41, Tryz.ntmps41
      go_wp2_with fail
      go_ret
      rw [Hv.out]
      exact ⟨rfl, ((Ext.refl _).alloc _).alloc _⟩
  have p2 : (x.high != y.high) = false := by simpa using h2
  have r2 : (x.high == y.high) = true := by simpa using h2
  by_cases h3 : x.branded = y.branded
  case neg =>
    as_aux_lemma =>
      have p3 : (x.branded != y.branded) = true := by simpa using h3
      have r3 : (x.branded == y.branded) = false := by simpa using h3
      have hv : agreeT x y = false := agree_no1 (by cases hb : plainEqB x y with | false => rfl | true => exact absurd (plainEqB_iff.1 hb).2.2.2.1 h3)
      have Hv := Lib.hid hv
      clear hv h0 h1 h2 h3
      go_enter Tryz.func41, Tryz.ntmps41
      go_wp2_with fail
      go_ret
      rw [Hv.out]
      exact ⟨rfl, ((Ext.refl _).alloc _).alloc _⟩
  have p3 : (x.branded != y.branded) = false := by simpa using h3
  have r3 : (x.branded == y.branded) = true := by simpa using h3
  by_cases h4 : x.brand = y.brand
  case neg =>
    as_aux_lemma =>
      have s4 : ¬ x.brand.toList = y.brand.toList := fun e => h4 (ba_toList_inj e)
      have p4 : (x.brand.toList != y.brand.toList) = true := by simpa using s4
      have r4 : (x.brand.toList == y.brand.toList) = false := by simpa using s4
      have hv : agreeT x y = false := agree_no1 (by cases hb : plainEqB x y with | false => rfl | true => exact absurd (plainEqB_iff.1 hb).2.2.2.2.1 h4)
      have Hv := Lib.hid hv
      clear hv h0 h1 h2 h3 h4
      go_enter Tryz.func41, Tryz.ntmps41
      go_wp2_with fail
      go_ret
      rw [Hv.out]
      exact ⟨rfl, ((Ext.refl _).alloc _).alloc _⟩
  have p4 : (x.brand.toList != y.brand.toList) = false := by rw [h4]; simp
  have r4 : (x.brand.toList == y.brand.toList) = true := by rw [h4]; simp
  by_cases h5 : x.opaq = y.opaq
  case neg =>
    as_aux_lemma =>
      have s5 : ¬ x.opaq.toList = y.opaq.toList := fun e => h5 (ba_toList_inj e)
      have p5 : (x.opaq.toList != y.opaq.toList) = true := by simpa using s5
      have r5 : (x.opaq.toList == y.opaq.toList) = false := by simpa using s5
      have hv : agreeT x y = false := agree_no1 (by cases hb : plainEqB x y with | false => rfl | true => exact absurd (plainEqB_iff.1 hb).2.2.2.2.2 h5)
      have Hv := Lib.hid hv
      clear hv h0 h1 h2 h3 h4 h5
      go_enter Tryz.func41, Tryz.ntmps41
      go_wp2_with fail
      go_ret
      rw [Hv.out]
      exact ⟨rfl, ((Ext.refl _).alloc _).alloc _⟩
  have p5 : (x.opaq.toList != y.opaq.toList) = false := by rw [h5]; simp
  have r5 : (x.opaq.toList == y.opaq.toList) = true := by rw [h5]; simp
  by_cases h6 : x.parts.length = y.parts.length
  case neg =>
    as_aux_lemma =>
      have p6 : ((x.parts.length : Int) != (y.parts.length : Int)) = true := by simp; omega
      have hv : agreeT x y = false := agree_no2 (eqF_len h6)
      have Hv := Lib.hid hv
      clear hv h0 h1 h2 h3 h4 h5 h6
      go_enter Tryz.func41, Tryz.ntmps41
      go_wp2_with fail
      go_ret
      rw [Hv.out]
      exact ⟨rfl, ((Ext.refl _).alloc _).alloc _⟩
  have p6 : ((x.parts.length : Int) != (y.parts.length : Int)) = false := by simp; omega
  by_cases h7 : x.methods.length = y.methods.length
  case neg =>
    as_aux_lemma =>
      have p7 : ((x.methods.length : Int) != (y.methods.length : Int)) = true := by simp; omega
      have hv : agreeT x y = false := agree_no3 (eqF_len h7)
      have Hv := Lib.hid hv
      clear hv h0 h1 h2 h3 h4 h5 h6 h7
      go_enter Tryz.func41, Tryz.ntmps41
      go_wp2_with fail
      go_ret
      rw [Hv.out]
      exact ⟨rfl, ((Ext.refl _).alloc _).alloc _⟩
  have p7 : ((x.methods.length : Int) != (y.methods.length : Int)) = false := by simp; omega
  by_cases h8 : x.overs.length = y.overs.length
  case neg =>
    as_aux_lemma =>
      have p8 : ((x.overs.length : Int) != (y.overs.length : Int)) = true := by simp; omega
      have hv : agreeT x y = false := agree_no4 (eqF_len h8)
      have Hv := Lib.hid hv
      clear hv h0 h1 h2 h3 h4 h5 h6 h7 h8
      go_enter Tryz.func41, Tryz.ntmps41
      go_wp2_with fail
      go_ret
      rw [Hv.out]
      exact ⟨rfl, ((Ext.refl _).alloc _).alloc _⟩
  have p8 : ((x.overs.length : Int) != (y.overs.length : Int)) = false := by simp; omega
  have hpl : plainEqB x y = true := plainEqB_iff.2 ⟨h0, h1, h2, h3, h4, h5⟩
  have Hpl := Lib.hid hpl
  have H6 := Lib.hid h6
  have H7 := Lib.hid h7
  have H8 := Lib.hid h8
  have le6 : x.parts.length ≤ y.parts.length := by omega
  have le7 : x.methods.length ≤ y.methods.length := by omega
  have le8 : x.overs.length ≤ y.overs.length := by omega
  clear hpl h0 h1 h2 h3 h4 h5 h6 h7 h8
  have hxw := (Ext.refl w).alloc (.cells #[.int .u8 x.kind, .int .i64 x.low, .int .i64 x.high, .bool x.branded, .string x.brand, .string x.opaq, .int .i64 x.super, .slice A1 x.parts.length a1, .slice A2 x.methods.length a2, .slice A3 x.overs.length a3] 42)
  have hbx : TyBox ((w.alloc (.cells #[.int .u8 x.kind, .int .i64 x.low, .int .i64 x.high, .bool x.branded, .string x.brand, .string x.opaq, .int .i64 x.super, .slice A1 x.parts.length a1, .slice A2 x.methods.length a2, .slice A3 x.overs.length a3] 42)).alloc (.cells #[.int .u8 y.kind, .int .i64 y.low, .int .i64 y.high, .bool y.branded, .string y.brand, .string y.opaq, .int .i64 y.super, .slice B1 y.parts.length b1, .slice B2 y.methods.length b2, .slice B3 y.overs.length b3] 42)) w.heap.size x (.slice A1 x.parts.length a1) (.slice A2 x.methods.length a2) (.slice A3 x.overs.length a3) := TyBox.ext (w := w.alloc (.cells #[.int .u8 x.kind, .int .i64 x.low, .int .i64 x.high, .bool x.branded, .string x.brand, .string x.opaq, .int .i64 x.super, .slice A1 x.parts.length a1, .slice A2 x.methods.length a2, .slice A3 x.overs.length a3] 42)) (heap_alloc_self w _) ((Ext.refl _).alloc _)
  have hby : TyBox ((w.alloc (.cells #[.int .u8 x.kind, .int .i64 x.low, .int .i64 x.high, .bool x.branded, .string x.brand, .string x.opaq, .int .i64 x.super, .slice A1 x.parts.length a1, .slice A2 x.methods.length a2, .slice A3 x.overs.length a3] 42)).alloc (.cells #[.int .u8 y.kind, .int .i64 y.low, .int .i64 y.high, .bool y.branded, .string y.brand, .string y.opaq, .int .i64 y.super, .slice B1 y.parts.length b1, .slice B2 y.methods.length b2, .slice B3 y.overs.length b3] 42)) (w.heap.size + 1) y (.slice B1 y.parts.length b1) (.slice B2 y.methods.length b2) (.slice B3 y.overs.length b3) := by
    have h := heap_alloc_self (w.alloc (.cells #[.int .u8 x.kind, .int .i64 x.low, .int .i64 x.high, .bool x.branded, .string x.brand, .string x.opaq, .int .i64 x.super, .slice A1 x.parts.length a1, .slice A2 x.methods.length a2, .slice A3 x.overs.length a3] 42)) (.cells #[.int .u8 y.kind, .int .i64 y.low, .int .i64 y.high, .bool y.branded, .string y.brand, .string y.opaq, .int .i64 y.super, .slice B1 y.parts.length b1, .slice B2 y.methods.length b2, .slice B3 y.overs.length b3] 42)
    rw [World.size_alloc] at h
    exact h
  have Hxw := Lib.hid (hxw.alloc (.cells #[.int .u8 y.kind, .int .i64 y.low, .int .i64 y.high, .bool y.branded, .string y.brand, .string y.opaq, .int .i64 y.super, .slice B1 y.parts.length b1, .slice B2 y.methods.length b2, .slice B3 y.overs.length b3] 42))
  have Hbx := Lib.hid hbx
  have Hby := Lib.hid hby
  clear hxw hbx hby
  go_enter Tryz.func41, Tryz.ntmps41
  go_wp2_with fail
  clear p0 p1 p2 p3 p4 p5 p6 p7 p8 r0 r1 r2 r3 r4 r5
  generalize ((w.alloc (.cells #[.int .u8 x.kind, .int .i64 x.low, .int .i64 x.high, .bool x.branded, .string x.brand, .string x.opaq, .int .i64 x.super, .slice A1 x.parts.length a1, .slice A2 x.methods.length a2, .slice A3 x.overs.length a3] 42)).alloc (.cells #[.int .u8 y.kind, .int .i64 y.low, .int .i64 y.high, .bool y.branded, .string y.brand, .string y.opaq, .int .i64 y.super, .slice B1 y.parts.length b1, .slice B2 y.methods.length b2, .slice B3 y.overs.length b3] 42)) = w2 at *
  generalize w.heap.size + 1 = by_ at *
  generalize w.heap.size = bx_ at *
  go_loopw [5] (fun u wr => ∃ k : Nat, k ≤ x.parts.length ∧ u = .int .i64 k ∧ Hid (Ext w2 wr) ∧ Hid (∀ i (h1 : i < x.parts.length) (h2 : i < y.parts.length), i < k → partEq x.parts[i] y.parts[i] = true)) (fun u _ => x.parts.length - (intOf u).toNat)
  case atStart => exact ⟨0, by omega, rfl, Lib.hid (Ext.refl _), Lib.hid (fun i _ _ h => by omega)⟩
  case round =>
    obtain ⟨k, hk, rfl, Hx, Hno⟩ := hrel
    obtain ⟨_, _, _, _, _, _, _, d7, d8, d9⟩ := (Hbx.out.ext Hx.out).at
    obtain ⟨_, _, _, _, _, _, _, f7, f8, f9⟩ := (Hby.out.ext Hx.out).at
    simp only [Nat.zero_add] at d7 d8 d9 f7 f8 f9
    have lx := cell_lt d7
    have ly := cell_lt f7
    by_cases hlt : k < x.parts.length
    · have hlt2 : k < y.parts.length := by omega
      obtain ⟨b, off, rfl, p0, _⟩ := Xps.out k hlt
      obtain ⟨b', off', rfl, p1, _⟩ := Yps.out k hlt2
      replace p0 := (Hxw.out.trans Hx.out).cell p0
      replace p1 := (Hxw.out.trans Hx.out).cell p1
      have l0 := cell_lt p0
      have l1 := cell_lt p1
      have i0 : (0 : Int) ≤ (k : Int) := by omega
      have i1 : (k : Int) < (x.parts.length : Int) := by omega
      have i2 : (k : Int) < (y.parts.length : Int) := by omega
      have Hno1 := Lib.hid (fun h => agree_no2 (eqF_no (p := partEq) hlt hlt2 h))
      have Hyes1 := Lib.hid (fun (h : partEq x.parts[k] y.parts[k] = true) i (h1 : i < x.parts.length) (h2 : i < y.parts.length) (hik : i < k + 1) => if e : i = k then (by subst e; exact h : partEq x.parts[i] y.parts[i] = true) else Hno.out i h1 h2 (by omega))
      have Hdf := Lib.hid (show partEq x.parts[k] y.parts[k] = (x.parts[k].name.toList == y.parts[k].name.toList) from rfl)
      generalize x.parts[k] = s at *
      generalize y.parts[k] = t at *
      cases he : (s.name.toList == t.name.toList) with
      | true =>
        have Hn := Lib.hid (Hyes1.out (Hdf.out.trans he))
        have he3 : (s.name.toList != t.name.toList) = false := by simpa using he
        have he2 : s.name.toList = t.name.toList := by simpa using he
        go_wp2_with fail
        go_quiet (fail)
        go_wp2_with fail
        go_roundw
        case rel => exact ⟨k + 1, by omega, by go_num, Lib.hid (Hx.out.drewN _), Hn⟩
        case measure => simp [intOf]; omega
      | false =>
        have Hv := Lib.hid (Hno1.out (Hdf.out.trans he))
        have he2 : ¬ s.name.toList = t.name.toList := by simpa using he
        have he3 : (s.name.toList != t.name.toList) = true := by simpa using he
        go_wp2_with fail
        go_quiet (fail)
        go_wp2_with fail
        go_ret
        rw [Hv.out]
        exact ⟨rfl, Hxw.out.trans (Hx.out.drewN _)⟩
    · have hparts := eqF_yes (p := partEq) H6.out (j := k) hlt (fun i h1 h2 h3 => Hno.out i h1 h2 h3)
      have Hparts := Lib.hid hparts
      have i1 : ¬ (k : Int) < (x.parts.length : Int) := by omega
      clear hparts Hno
      go_wp2_with fail
      go_loopw [6] (fun u wr => ∃ k : Nat, k ≤ x.methods.length ∧ u = .int .i64 k ∧ Hid (Ext w2 wr) ∧ Hid (∀ i (h1 : i < x.methods.length) (h2 : i < y.methods.length), i < k → sameMethodB x.methods[i] y.methods[i] = true)) (fun u _ => x.methods.length - (intOf u).toNat)
      case atStart => exact ⟨0, by omega, rfl, Hx, Lib.hid (fun i _ _ h => by omega)⟩
      case round =>
        clear d7 d8 d9 f7 f8 f9 lx ly hk hlt i1 Hx
        obtain ⟨k, hk, rfl, Hx, Hno⟩ := hrel
        obtain ⟨_, _, _, _, _, _, _, d7, d8, d9⟩ := (Hbx.out.ext Hx.out).at
        obtain ⟨_, _, _, _, _, _, _, f7, f8, f9⟩ := (Hby.out.ext Hx.out).at
        simp only [Nat.zero_add] at d7 d8 d9 f7 f8 f9
        have lx := cell_lt d7
        have ly := cell_lt f7
        by_cases hlt : k < x.methods.length
        · have hlt2 : k < y.methods.length := by omega
          obtain ⟨b, off, sa, sr, rfl, hsa, hsr, m0, m1, m2, m3, m4⟩ := Xms.out k hlt
          obtain ⟨b', off', ta, tr, rfl, hta, htr, n0, n1, n2, n3, n4⟩ := Yms.out k hlt2
          have hsm := Xmm.out _ (List.getElem_mem hlt)
          have htm := Ymm.out _ (List.getElem_mem hlt2)
          have i0 : (0 : Int) ≤ (k : Int) := by omega
          have i1 : (k : Int) < (x.methods.length : Int) := by omega
          have i2 : (k : Int) < (y.methods.length : Int) := by omega
          have Hno1 := Lib.hid (fun h => agree_no3 (eqF_no (p := sameMethodB) hlt hlt2 h))
          have Hyes1 := Lib.hid (fun (h : sameMethodB x.methods[k] y.methods[k] = true) i (h1 : i < x.methods.length) (h2 : i < y.methods.length) (hik : i < k + 1) => if e : i = k then (by subst e; exact h : sameMethodB x.methods[i] y.methods[i] = true) else Hno.out i h1 h2 (by omega))
          generalize x.methods[k] = s at *
          generalize y.methods[k] = t at *
          obtain ⟨Sa, sac, es⟩ := hsa.len
          obtain ⟨Sr, src, er⟩ := hsr.len
          obtain ⟨Ta, tac, et⟩ := hta.len
          obtain ⟨Tr, trc, etr⟩ := htr.len
          subst es er et etr
          have Hcall := Lib.hid (fun w' (hx' : Ext w w') => rstrings_any w' _ _ s.raises t.raises (hsr.mono hx') (htr.mono hx') hsm.2.2.2.1 htm.2.2.2.1)
          obtain ⟨_, _, z1, z2, _⟩ := hsm
          obtain ⟨_, _, z3, z4, _⟩ := htm
          clear hsa hsr hta htr
          replace m0 := (Hxw.out.trans Hx.out).cell m0
          replace m1 := (Hxw.out.trans Hx.out).cell m1
          replace m2 := (Hxw.out.trans Hx.out).cell m2
          replace m3 := (Hxw.out.trans Hx.out).cell m3
          replace m4 := (Hxw.out.trans Hx.out).cell m4
          replace n0 := (Hxw.out.trans Hx.out).cell n0
          replace n1 := (Hxw.out.trans Hx.out).cell n1
          replace n2 := (Hxw.out.trans Hx.out).cell n2
          replace n3 := (Hxw.out.trans Hx.out).cell n3
          replace n4 := (Hxw.out.trans Hx.out).cell n4
          have l0 := cell_lt m0
          have l1 := cell_lt n0
          have Hx4 := Lib.hid ((Hx.out.alloc (.cells #[.string s.name, .slice Sa s.args.length sac, .int .i64 s.result, .slice Sr s.raises.length src, .string s.proc] 74)).alloc (.cells #[.string t.name, .slice Ta t.args.length tac, .int .i64 t.result, .slice Tr t.raises.length trc, .string t.proc] 74))
          by_cases g0 : s.name = t.name
          case neg =>
            as_aux_lemma =>
              have s0 : ¬ s.name.toList = t.name.toList := fun e => g0 (ba_toList_inj e)
              have p0 : (s.name.toList != t.name.toList) = true := by simpa using s0
              have r0 : (s.name.toList == t.name.toList) = false := by simpa using s0
              have Hv := Lib.hid (Hno1.out (by cases hb : sameMethodB s t with | false => rfl | true => exact absurd (sameMethodB_iff.1 hb).1 g0))
              clear g0
              go_wp2_with fail
              go_ret
              rw [Hv.out]
              exact ⟨rfl, Hxw.out.trans Hx4.out⟩
          have p0 : (s.name.toList != t.name.toList) = false := by rw [g0]; simp
          have r0 : (s.name.toList == t.name.toList) = true := by rw [g0]; simp
          by_cases g1 : s.proc = t.proc
          case neg =>
            as_aux_lemma =>
              have s1 : ¬ s.proc.toList = t.proc.toList := fun e => g1 (ba_toList_inj e)
              have p1 : (s.proc.toList != t.proc.toList) = true := by simpa using s1
              have r1 : (s.proc.toList == t.proc.toList) = false := by simpa using s1
              have Hv := Lib.hid (Hno1.out (by cases hb : sameMethodB s t with | false => rfl | true => exact absurd (sameMethodB_iff.1 hb).2.1 g1))
              clear g0 g1
              go_wp2_with fail
              go_ret
              rw [Hv.out]
              exact ⟨rfl, Hxw.out.trans Hx4.out⟩
          have p1 : (s.proc.toList != t.proc.toList) = false := by rw [g1]; simp
          have r1 : (s.proc.toList == t.proc.toList) = true := by rw [g1]; simp
          by_cases g2 : s.args.length = t.args.length
          case neg =>
            as_aux_lemma =>
              have p2 : ((s.args.length : Int) != (t.args.length : Int)) = true := by simp; omega
              have Hv := Lib.hid (Hno1.out (by cases hb : sameMethodB s t with | false => rfl | true => exact absurd (sameMethodB_iff.1 hb).2.2.1 g2))
              clear g0 g1 g2
              go_wp2_with fail
              go_ret
              rw [Hv.out]
              exact ⟨rfl, Hxw.out.trans Hx4.out⟩
          have p2 : ((s.args.length : Int) != (t.args.length : Int)) = false := by simp; omega
          have hsame : ∀ (e : decide (s.result < 0) = decide (t.result < 0)), sameMethodB s t = eqF strEq s.raises t.raises := by
            intro e
            unfold sameMethodB
            rw [strEq_iff.2 g0, strEq_iff.2 g1, decide_eq_true g2, e]
            simp
          have Hdiff := Lib.hid (fun (e : decide (s.result < 0) ≠ decide (t.result < 0)) => Hno1.out (by cases hb : sameMethodB s t with | false => rfl | true => exact absurd (sameMethodB_iff.1 hb).2.2.2.1 e))
          have Hsame := Lib.hid hsame
          clear hsame g0 g1 g2
          by_cases g3 : s.result < 0
          case pos =>
            by_cases g4 : t.result < 0
            case pos =>
              as_aux_lemma =>
                have Hs := Lib.hid (Hsame.out (by simp [g3, g4]))
                cases hr : eqF strEq s.raises t.raises with
                | false =>
                  have Hv := Lib.hid (Hno1.out (Hs.out.trans hr))
                  rw [hr] at Hcall
                  clear hr
                  go_wp2_with fail
                  refine (Hcall.out _ (Hxw.out.trans Hx4.out)).mono ?_
                  rintro e w5 ⟨rfl, hx5⟩
                  go_wp2_with fail
                  go_ret
                  rw [Hv.out]
                  exact ⟨rfl, (Hxw.out.trans Hx4.out).trans hx5⟩
                | true =>
                  have Hn := Lib.hid (Hyes1.out (Hs.out.trans hr))
                  rw [hr] at Hcall
                  clear hr
                  go_wp2_with fail
                  refine (Hcall.out _ (Hxw.out.trans Hx4.out)).mono ?_
                  rintro e w5 ⟨rfl, hx5⟩
                  have Hx5 := Lib.hid (Hx4.out.trans hx5)
                  clear hx5
                  go_wp2_with fail
                  go_roundw
                  case rel => exact ⟨k + 1, by omega, by go_num, Hx5, Hn⟩
                  case measure => simp [intOf]; omega
            case neg =>
              as_aux_lemma =>
                have Hv := Lib.hid (Hdiff.out (by simp [g3, g4]))
                go_wp2_with fail
                go_ret
                rw [Hv.out]
                exact ⟨rfl, Hxw.out.trans Hx4.out⟩
          case neg =>
            by_cases g4 : t.result < 0
            case pos =>
              as_aux_lemma =>
                have Hv := Lib.hid (Hdiff.out (by simp [g3, g4]))
                go_wp2_with fail
                go_ret
                rw [Hv.out]
                exact ⟨rfl, Hxw.out.trans Hx4.out⟩
            case neg =>
              as_aux_lemma =>
                have Hs := Lib.hid (Hsame.out (by simp [g3, g4]))
                cases hr : eqF strEq s.raises t.raises with
                | false =>
                  have Hv := Lib.hid (Hno1.out (Hs.out.trans hr))
                  rw [hr] at Hcall
                  clear hr
                  go_wp2_with fail
                  refine (Hcall.out _ (Hxw.out.trans Hx4.out)).mono ?_
                  rintro e w5 ⟨rfl, hx5⟩
                  go_wp2_with fail
                  go_ret
                  rw [Hv.out]
                  exact ⟨rfl, (Hxw.out.trans Hx4.out).trans hx5⟩
                | true =>
                  have Hn := Lib.hid (Hyes1.out (Hs.out.trans hr))
                  rw [hr] at Hcall
                  clear hr
                  go_wp2_with fail
                  refine (Hcall.out _ (Hxw.out.trans Hx4.out)).mono ?_
                  rintro e w5 ⟨rfl, hx5⟩
                  have Hx5 := Lib.hid (Hx4.out.trans hx5)
                  clear hx5
                  go_wp2_with fail
                  go_roundw
                  case rel => exact ⟨k + 1, by omega, by go_num, Hx5, Hn⟩
                  case measure => simp [intOf]; omega
        · have hmeths := eqF_yes (p := sameMethodB) H7.out (j := k) hlt (fun i h1 h2 h3 => Hno.out i h1 h2 h3)
          have Hmeths := Lib.hid hmeths
          have i1 : ¬ (k : Int) < (x.methods.length : Int) := by omega
          clear hmeths Hno
          go_wp2_with fail
          go_loopw [9] (fun u wr => ∃ k : Nat, k ≤ x.overs.length ∧ u = .int .i64 k ∧ Hid (Ext w2 wr) ∧ Hid (∀ i (h1 : i < x.overs.length) (h2 : i < y.overs.length), i < k → overEq x.overs[i] y.overs[i] = true)) (fun u _ => x.overs.length - (intOf u).toNat)
          case atStart => exact ⟨0, by omega, rfl, Hx, Lib.hid (fun i _ _ h => by omega)⟩
          case round =>
            clear d7 d8 d9 f7 f8 f9 lx ly hk hlt i1 Hx
            obtain ⟨k, hk, rfl, Hx, Hno⟩ := hrel
            obtain ⟨_, _, _, _, _, _, _, d7, d8, d9⟩ := (Hbx.out.ext Hx.out).at
            obtain ⟨_, _, _, _, _, _, _, f7, f8, f9⟩ := (Hby.out.ext Hx.out).at
            simp only [Nat.zero_add] at d7 d8 d9 f7 f8 f9
            have lx := cell_lt d7
            have ly := cell_lt f7
            by_cases hlt : k < x.overs.length
            · have hlt2 : k < y.overs.length := by omega
              obtain ⟨b, off, rfl, m0, m1⟩ := Xos.out k hlt
              obtain ⟨b', off', rfl, n0, n1⟩ := Yos.out k hlt2
              replace m0 := (Hxw.out.trans Hx.out).cell m0
              replace m1 := (Hxw.out.trans Hx.out).cell m1
              replace n0 := (Hxw.out.trans Hx.out).cell n0
              replace n1 := (Hxw.out.trans Hx.out).cell n1
              have l0 := cell_lt m0
              have l1 := cell_lt n0
              have i0 : (0 : Int) ≤ (k : Int) := by omega
              have i1 : (k : Int) < (x.overs.length : Int) := by omega
              have i2 : (k : Int) < (y.overs.length : Int) := by omega
              have Hno1 := Lib.hid (fun h => agree_no4 (eqF_no (p := overEq) hlt hlt2 h))
              have Hyes1 := Lib.hid (fun (h : overEq x.overs[k] y.overs[k] = true) i (h1 : i < x.overs.length) (h2 : i < y.overs.length) (hik : i < k + 1) => if e : i = k then (by subst e; exact h : overEq x.overs[i] y.overs[i] = true) else Hno.out i h1 h2 (by omega))
              have Hdf := Lib.hid (show overEq x.overs[k] y.overs[k] = (x.overs[k].name.toList == y.overs[k].name.toList && x.overs[k].proc.toList == y.overs[k].proc.toList) from rfl)
              generalize x.overs[k] = s at *
              generalize y.overs[k] = t at *
              have hneq := neq_over s.name s.proc t.name t.proc
              generalize hb : (s.name.toList == t.name.toList && s.proc.toList == t.proc.toList) = bb at hneq Hdf
              have hgu := guard117 BinOp.neq
              clear hb
              cases bb with
              | true =>
                have Hn := Lib.hid (Hyes1.out Hdf.out)
                go_wp2_with fail
                go_quiet (fail)
                go_wp2_with fail
                go_roundw
                case rel => exact ⟨k + 1, by omega, by go_num, Lib.hid (Hx.out.drewN _), Hn⟩
                case measure => simp [intOf]; omega
              | false =>
                have Hv := Lib.hid (Hno1.out Hdf.out)
                go_wp2_with fail
                go_quiet (fail)
                go_wp2_with fail
                go_ret
                rw [Hv.out]
                exact ⟨rfl, Hxw.out.trans (Hx.out.drewN _)⟩
            · have hov := eqF_yes (p := overEq) H8.out (j := k) hlt (fun i h1 h2 h3 => Hno.out i h1 h2 h3)
              have Hv := Lib.hid (agree_yes Hpl.out Hparts.out Hmeths.out hov)
              have i1 : ¬ (k : Int) < (x.overs.length : Int) := by omega
              clear hov Hno
              go_wp2_with fail
              go_ret
              rw [Hv.out]
              exact ⟨rfl, Hxw.out.trans Hx.out⟩
end Go.Proofs.YtldnjnnhfeobdaaGreatDoor
/- A law's arguments, opened: what a reading of a graph, of numbers says of the memory; how a law's answer is told. Bulk at most 2^20. -/
namespace Go.Proofs.YtldnjnnhfeobdaaGreatDoor
set_option linter.all false
set_option linter.unusedSimpArgs false
set_option linter.unusedVariables false
open Go.RowKit Go.ChangeShapes Go.WideShapes

theorem bulk_part {H : Type} {d : DataW H} {l : List (DataW H)} (h : d ∈ l) : Rows.uptoBulk d ≤ Rows.uptoBulkAll l := by
  induction l with
  | nil => cases h
  | cons x r ih =>
    simp only [Rows.uptoBulkAll]
    cases List.mem_cons.1 h with
    | inl e => subst e; omega
    | inr e => have := ih e; omega
theorem bulk_one {H : Type} (d : DataW H) : 1 ≤ Rows.uptoBulk d := by
  cases d with
  | lit l => cases l <;> simp [Rows.uptoBulk]
  | nil => simp [Rows.uptoBulk]
  | ptr d => simp [Rows.uptoBulk]
  | slice elems spare => simp [Rows.uptoBulk]
  | agg parts => simp [Rows.uptoBulk]
  | iface t d => simp [Rows.uptoBulk]
  | map entries => simp [Rows.uptoBulk]
  | held h => simp [Rows.uptoBulk]
theorem bulk_left {H : Type} (l r : List (DataW H)) : Rows.uptoBulkAll l ≤ Rows.uptoBulkAll (l ++ r) := by
  induction l with
  | nil => simp [Rows.uptoBulkAll]
  | cons x l ih => simp only [List.cons_append, Rows.uptoBulkAll]; omega
theorem bulk_of {H : Type} {l r : List (DataW H)} (h : Rows.uptoSmall H (l ++ r) = true) : ∃ B, B = 1048576 ∧ Rows.uptoBulkAll l ≤ B :=
  ⟨1048576, rfl, Nat.le_trans (bulk_left l r) (of_decide_eq_true h)⟩
theorem bulk_length {H : Type} (l : List (DataW H)) : l.length ≤ Rows.uptoBulkAll l := by
  induction l with
  | nil => simp [Rows.uptoBulkAll]
  | cons x r ih => have := bulk_one x; simp only [Rows.uptoBulkAll, List.length_cons]; omega
theorem list_pick {α : Type} {p : Nat → α → Prop} : ∀ n, (∀ i, i < n → ∃ y, p i y) → ∃ xs : List α, xs.length = n ∧ ∀ i y, xs[i]? = some y → p i y
  | 0, _ => ⟨[], rfl, fun i y h => by simp at h⟩
  | n + 1, h => by
    obtain ⟨xs, hl, hx⟩ := list_pick n (fun i hi => h i (by omega))
    obtain ⟨y, hy⟩ := h n (by omega)
    refine ⟨xs ++ [y], by simp [hl], fun i z hz => ?_⟩
    by_cases hi : i < n
    · rw [List.getElem?_append_left (by omega)] at hz
      exact hx i z hz
    · rw [List.getElem?_append_right (by omega)] at hz
      have hin : i = n := by
        have := (List.getElem?_eq_some_iff.1 hz).1
        simp at this; omega
      subst hin
      simp [hl] at hz
      subst hz
      exact hy

section
variable {H : Type} {enc : TypeId × Value → H} {W : World}
/-- what a reading at a type says of the cells, and of sizes if the bulk is bounded -/
def Opens {α : Type} (enc : TypeId × Value → H) (W : World) (e : TypeId) (E : Elt α) (Sm : Nat → α → Prop) : Prop :=
  ∀ (n fuel : Nat) (cs : List Value) (x : DataW H × List MemPlace), DataW.trod enc Tryz.prog W 0 (fun _ => true) true fuel e cs = some x → ∃ y, E.rel Any W y cs ∧ (Rows.uptoBulk x.1 ≤ n → Sm n y)
/-- .. at the type of a slice -/
def OpensSl {α : Type} (enc : TypeId × Value → H) (W : World) (t : TypeId) (E : Elt α) (Sm : Nat → α → Prop) : Prop :=
  ∀ (n fuel : Nat) (cs : List Value) (x : DataW H × List MemPlace), DataW.trod enc Tryz.prog W 0 (fun _ => true) true fuel t cs = some x → ∃ v xs, cs = [v] ∧ Sl E W v xs ∧ (Rows.uptoBulk x.1 ≤ n → xs.length ≤ n ∧ ∀ y ∈ xs, Sm n y)
theorem opens_slice {α : Type} {t e : TypeId} {E : Elt α} {Sm : Nat → α → Prop} (ht : Tryz.prog.underlying t = some (.slice e)) (hk : Tryz.prog.cellsOf e = E.k) (h : Opens enc W e E Sm) : OpensSl enc W t E Sm := by
  intro n fuel cs x hx
  rcases Go.Deep.open_slice ht hx with ⟨rfl, rfl⟩ | ⟨a, len, cap, m, f, D, Pl, rfl, _, hlc, _, hm, rfl, hel⟩
  · exact ⟨_, [], rfl, Sl.nil _ _, fun _ => ⟨Nat.zero_le _, fun y hy => by simp at hy⟩⟩
  · have hlm : len ≤ m := by rw [hm]; split <;> omega
    have hall : ∀ i, i < len → ∃ y cs', W.cells? 0 (a.add (i * E.k)) E.k = some cs' ∧ E.rel Any W y cs' ∧ (Rows.uptoBulk (D i) ≤ n → Sm n y) := by
      intro i hi
      obtain ⟨cs', h1, h2⟩ := hel i (by omega)
      rw [hk] at h1
      obtain ⟨y, hy, hs⟩ := h n f cs' _ h2
      exact ⟨y, cs', h1, hy, hs⟩
    obtain ⟨xs, hl, hxs⟩ := list_pick len hall
    refine ⟨_, xs, rfl, ?_, fun hb => ⟨?_, fun y hy => ?_⟩⟩
    · subst hl
      refine ⟨some a, cap, rfl, fun i y hi => ?_⟩
      have hlt : i < xs.length := (List.getElem?_eq_some_iff.1 hi).1
      obtain ⟨cs', h1, h2, _⟩ := hxs i y hi
      have hsp : a.spot = none := by
        obtain ⟨c0, h0, h02, _⟩ := hxs 0 xs[0] (List.getElem?_eq_getElem (by omega))
        obtain ⟨_, hcl, hc⟩ := World.cells?_some h0
        have hp := E.pos
        have h00 := hc 0 (by omega)
        rw [List.getElem?_eq_getElem (by omega)] at h00
        simp only [Nat.zero_mul, Addr.add, if_true] at h00
        unfold World.cell? at h00
        cases hs : a.spot with
        | none => rfl
        | some k => rw [hs] at h00; split at h00 <;> simp at h00
      obtain ⟨b, off, spot⟩ := a
      simp only at hsp
      subst hsp
      obtain ⟨_, hcl, hc⟩ := World.cells?_some h1
      refine ⟨b, off, cs', rfl, ⟨trivial, hlc⟩, h2, fun j u hj => ?_⟩
      have hjl : j < E.k := by have := (List.getElem?_eq_some_iff.1 hj).1; omega
      have := hc j hjl
      rw [Go.Deep.add_add] at this
      rw [hj] at this
      have ha : (⟨b, off, none⟩ : Addr).add (i * E.k + j) = ⟨b, off + i * E.k + j, none⟩ := by unfold Addr.add; split <;> simp_all <;> omega
      rwa [ha] at this
    · have h1 := bulk_length ((List.range len).map D)
      simp only [Rows.uptoBulk] at hb
      rw [List.length_map, List.length_range] at h1
      omega
    · obtain ⟨i, hi, rfl⟩ := List.mem_iff_getElem.1 hy
      obtain ⟨_, _, _, hs⟩ := hxs i _ (List.getElem?_eq_getElem hi)
      refine hs ?_
      simp only [Rows.uptoBulk] at hb
      have h1 := bulk_part (d := D i) (l := (List.range len).map D) (List.mem_map_of_mem (by simp; omega))
      omega
theorem opens_int : Opens enc W 3 intE (fun _ _ => True) := by
  intro n fuel cs x hx
  obtain ⟨k, rfl, rfl, _⟩ := DataW.trod_int Tryz.underlying3 hx
  exact ⟨k, rfl, fun _ => trivial⟩
theorem opens_str : Opens enc W 9 strE (fun n s => s.size ≤ n) := by
  intro n fuel cs x hx
  obtain ⟨s, rfl, rfl, _⟩ := DataW.trod_string Tryz.underlying9 hx
  refine ⟨s, rfl, fun h => ?_⟩
  simp only [Rows.uptoBulk] at h
  have : s.data.toList.length = s.size := by simp
  omega
theorem opens_ints : OpensSl enc W 24 intE (fun _ _ => True) := opens_slice Tryz.underlying24 (by kernel_rfl) opens_int
theorem opens_strs : OpensSl enc W 70 strE (fun n s => s.size ≤ n) := opens_slice Tryz.underlying70 (by kernel_rfl) opens_str
theorem list2 {α : Type} {l : List α} (h : l.length = 2) : ∃ a b, l = [a, b] := by
  match l, h with
  | [a, b], _ => exact ⟨a, b, rfl⟩
theorem list3 {α : Type} {l : List α} (h : l.length = 3) : ∃ a b c, l = [a, b, c] := by
  match l, h with
  | [a, b, c], _ => exact ⟨a, b, c, rfl⟩
theorem list5 {α : Type} {l : List α} (h : l.length = 5) : ∃ a b c d e, l = [a, b, c, d, e] := by
  match l, h with
  | [a, b, c, d, e], _ => exact ⟨a, b, c, d, e, rfl⟩
theorem list10 {α : Type} {l : List α} (h : l.length = 10) : ∃ a b c d e f g i j k, l = [a, b, c, d, e, f, g, i, j, k] := by
  match l, h with
  | [a, b, c, d, e, f, g, i, j, k], _ => exact ⟨a, b, c, d, e, f, g, i, j, k, rfl⟩
theorem cells_at {t : TypeId} {k : Nat} (h : Tryz.prog.cellsOf t = k) {l : List Value} {off : Nat} {r : List Value} (hr : (l.drop off).take k = r) : (l.drop off).take (Tryz.prog.cellsOf t) = r := by rw [h]; exact hr
theorem k3 : Tryz.prog.cellsOf 3 = 1 := by kernel_rfl
theorem k4 : Tryz.prog.cellsOf 4 = 1 := by kernel_rfl
theorem k5 : Tryz.prog.cellsOf 5 = 1 := by kernel_rfl
theorem k9 : Tryz.prog.cellsOf 9 = 1 := by kernel_rfl
theorem k24 : Tryz.prog.cellsOf 24 = 1 := by kernel_rfl
theorem k38 : Tryz.prog.cellsOf 38 = 1 := by kernel_rfl
theorem k39 : Tryz.prog.cellsOf 39 = 1 := by kernel_rfl
theorem k40 : Tryz.prog.cellsOf 40 = 1 := by kernel_rfl
theorem k70 : Tryz.prog.cellsOf 70 = 1 := by kernel_rfl
theorem k72 : Tryz.prog.cellsOf 72 = 3 := by kernel_rfl
theorem k74 : Tryz.prog.cellsOf 74 = 5 := by kernel_rfl
theorem k95 : Tryz.prog.cellsOf 95 = 2 := by kernel_rfl
theorem k117 : Tryz.prog.cellsOf 117 = 2 := by kernel_rfl
theorem k42 : Tryz.prog.cellsOf 42 = 10 := by kernel_rfl
theorem fld {fs : Array Field} {f : Nat} {cs : List Value} {ys : List (DataW H × List MemPlace)} (hf : ∀ (i : Nat) (g : Field), fs[i]? = some g → DataW.trod enc Tryz.prog W 0 (fun _ => true) true f g.type ((cs.drop g.offset).take (Tryz.prog.cellsOf g.type)) = ys[i]?)
    (i : Nat) (g : Field) (hg : fs[i]? = some g) {t : TypeId} {off k : Nat} {r : List Value} {y : DataW H × List MemPlace} (ht : g.type = t) (ho : g.offset = off) (hk : Tryz.prog.cellsOf t = k) (hr : (cs.drop off).take k = r) (hy : ys[i]? = some y) :
    DataW.trod enc Tryz.prog W 0 (fun _ => true) true f t r = some y := by
  have h := hf i g hg
  rw [ht, ho, hk, hr, hy] at h
  exact h
theorem opens_part : Opens enc W 95 partE (fun n p => p.name.size ≤ n) := by
  intro n fuel cs x hx
  obtain ⟨ys, f, rfl, rfl, hl, hyl, hf⟩ := DataW.trod_struct Tryz.underlying95 hx
  rw [k95] at hl
  obtain ⟨c0, c1, rfl⟩ := list2 hl
  obtain ⟨y0, y1, rfl⟩ := list2 hyl
  obtain ⟨s, e0, hs⟩ := opens_str n _ _ _ (fld hf 0 _ rfl (t := 9) (off := 0) rfl rfl k9 (r := [c0]) rfl (y := y0) rfl)
  obtain ⟨k, e1, _⟩ := opens_int n _ _ _ (fld hf 1 _ rfl (t := 3) (off := 1) rfl rfl k3 (r := [c1]) rfl (y := y1) rfl)
  simp only [strE, intE, List.cons.injEq, and_true] at e0 e1
  subst e0 e1
  refine ⟨⟨s, k⟩, rfl, fun hb => hs ?_⟩
  simp only [Rows.uptoBulk, Rows.uptoBulkAll, List.map_cons, List.map_nil] at hb
  omega
theorem opens_over : Opens enc W 117 overE (fun n p => p.name.size ≤ n ∧ p.proc.size ≤ n) := by
  intro n fuel cs x hx
  obtain ⟨ys, f, rfl, rfl, hl, hyl, hf⟩ := DataW.trod_struct Tryz.underlying117 hx
  rw [k117] at hl
  obtain ⟨c0, c1, rfl⟩ := list2 hl
  obtain ⟨y0, y1, rfl⟩ := list2 hyl
  obtain ⟨s, e0, hs⟩ := opens_str n _ _ _ (fld hf 0 _ rfl (t := 9) (off := 0) rfl rfl k9 (r := [c0]) rfl (y := y0) rfl)
  obtain ⟨k, e1, hs1⟩ := opens_str n _ _ _ (fld hf 1 _ rfl (t := 9) (off := 1) rfl rfl k9 (r := [c1]) rfl (y := y1) rfl)
  simp only [strE, List.cons.injEq, and_true] at e0 e1
  subst e0 e1
  refine ⟨⟨s, k⟩, rfl, fun hb => ?_⟩
  simp only [Rows.uptoBulk, Rows.uptoBulkAll, List.map_cons, List.map_nil] at hb
  exact ⟨hs (by omega), hs1 (by omega)⟩
def MethSm (n : Nat) (m : Method) : Prop := m.name.size ≤ n ∧ m.proc.size ≤ n ∧ m.args.length ≤ n ∧ m.raises.length ≤ n ∧ ∀ r ∈ m.raises, r.size ≤ n
theorem opens_method : Opens enc W 74 methodE MethSm := by
  intro n fuel cs x hx
  obtain ⟨ys, f, rfl, rfl, hl, hyl, hf⟩ := DataW.trod_struct Tryz.underlying74 hx
  rw [k74] at hl
  obtain ⟨c0, c1, c2, c3, c4, rfl⟩ := list5 hl
  obtain ⟨y0, y1, y2, rfl⟩ := list3 hyl
  obtain ⟨s, e0, hs⟩ := opens_str n _ _ _ (fld hf 0 _ rfl (t := 9) (off := 0) rfl rfl k9 (r := [c0]) rfl (y := y0) rfl)
  obtain ⟨p, e2, hp⟩ := opens_str n _ _ _ (fld hf 2 _ rfl (t := 9) (off := 4) rfl rfl k9 (r := [c4]) rfl (y := y2) rfl)
  obtain ⟨zs, f', rfl, rfl, _, hzl, hg⟩ := DataW.trod_struct Tryz.underlying72 (fld hf 1 _ rfl (t := 72) (off := 1) rfl rfl k72 (r := [c1, c2, c3]) rfl (y := y1) rfl)
  obtain ⟨z0, z1, z2, rfl⟩ := list3 hzl
  obtain ⟨va, zs', ea, ha, hsa⟩ := opens_ints n _ _ _ (fld hg 0 _ rfl (t := 24) (off := 0) rfl rfl k24 (r := [c1]) rfl (y := z0) rfl)
  obtain ⟨k, ek, _⟩ := opens_int n _ _ _ (fld hg 1 _ rfl (t := 3) (off := 1) rfl rfl k3 (r := [c2]) rfl (y := z1) rfl)
  obtain ⟨vr, rs, er, hr, hsr⟩ := opens_strs n _ _ _ (fld hg 2 _ rfl (t := 70) (off := 2) rfl rfl k70 (r := [c3]) rfl (y := z2) rfl)
  simp only [strE, intE, List.cons.injEq, and_true] at e0 e2 ek ea er
  subst e0 e2 ek ea er
  refine ⟨⟨s, zs', k, rs, p⟩, ⟨_, _, rfl, ha, hr⟩, fun hb => ?_⟩
  simp only [Rows.uptoBulk, Rows.uptoBulkAll, List.map_cons, List.map_nil] at hb
  exact ⟨hs (by omega), hp (by omega), (hsa (by omega)).1, (hsr (by omega)).1, (hsr (by omega)).2⟩
theorem opens_parts : OpensSl enc W 38 partE (fun n p => p.name.size ≤ n) := opens_slice Tryz.underlying38 k95 opens_part
theorem opens_methods : OpensSl enc W 39 methodE MethSm := opens_slice Tryz.underlying39 k74 opens_method
theorem opens_overs : OpensSl enc W 40 overE (fun n p => p.name.size ≤ n ∧ p.proc.size ≤ n) := opens_slice Tryz.underlying40 k117 opens_over
structure TySm (n : Nat) (t : Ty) : Prop where
  kind : 0 ≤ t.kind ∧ t.kind ≤ 255
  brand : t.brand.size ≤ n
  opaq : t.opaq.size ≤ n
  parts : t.parts.length ≤ n ∧ ∀ p ∈ t.parts, p.name.size ≤ n
  methods : t.methods.length ≤ n ∧ ∀ m ∈ t.methods, MethSm n m
  overs : t.overs.length ≤ n ∧ ∀ o ∈ t.overs, o.name.size ≤ n ∧ o.proc.size ≤ n
theorem wf_u8 {n : Int} (h : (Lit.int .u8 n).wf = true) : 0 ≤ n ∧ n ≤ 255 := by
  simpa [Lit.wf, IntKind.min, IntKind.max, IntKind.signed, IntKind.bits] using h
set_option maxHeartbeats 1000000 in
theorem opens_ty : Opens enc W 42 tyE TySm := by
  intro n fuel cs x hx
  obtain ⟨ys, f, rfl, rfl, hl, hyl, hf⟩ := DataW.trod_struct Tryz.underlying42 hx
  rw [k42] at hl
  obtain ⟨c0, c1, c2, c3, c4, c5, c6, c7, c8, c9, rfl⟩ := list10 hl
  obtain ⟨y0, y1, y2, y3, y4, y5, y6, y7, y8, y9, rfl⟩ := list10 hyl
  obtain ⟨kd, e0, _, hk⟩ := DataW.trod_int Tryz.underlying5 (fld hf 0 _ rfl (t := 5) (off := 0) rfl rfl k5 (r := [c0]) rfl (y := y0) rfl)
  obtain ⟨lo, e1, _⟩ := opens_int n _ _ _ (fld hf 1 _ rfl (t := 3) (off := 1) rfl rfl k3 (r := [c1]) rfl (y := y1) rfl)
  obtain ⟨hi, e2, _⟩ := opens_int n _ _ _ (fld hf 2 _ rfl (t := 3) (off := 2) rfl rfl k3 (r := [c2]) rfl (y := y2) rfl)
  obtain ⟨br, e3, _⟩ := DataW.trod_bool Tryz.underlying4 (fld hf 3 _ rfl (t := 4) (off := 3) rfl rfl k4 (r := [c3]) rfl (y := y3) rfl)
  obtain ⟨bd, e4, hbd⟩ := opens_str n _ _ _ (fld hf 4 _ rfl (t := 9) (off := 4) rfl rfl k9 (r := [c4]) rfl (y := y4) rfl)
  obtain ⟨op, e5, hop⟩ := opens_str n _ _ _ (fld hf 5 _ rfl (t := 9) (off := 5) rfl rfl k9 (r := [c5]) rfl (y := y5) rfl)
  obtain ⟨su, e6, _⟩ := opens_int n _ _ _ (fld hf 6 _ rfl (t := 3) (off := 6) rfl rfl k3 (r := [c6]) rfl (y := y6) rfl)
  obtain ⟨vp, ps, e7, hp, hps⟩ := opens_parts n _ _ _ (fld hf 7 _ rfl (t := 38) (off := 7) rfl rfl k38 (r := [c7]) rfl (y := y7) rfl)
  obtain ⟨vm, ms, e8, hm, hms⟩ := opens_methods n _ _ _ (fld hf 8 _ rfl (t := 39) (off := 8) rfl rfl k39 (r := [c8]) rfl (y := y8) rfl)
  obtain ⟨vo, os, e9, ho, hos⟩ := opens_overs n _ _ _ (fld hf 9 _ rfl (t := 40) (off := 9) rfl rfl k40 (r := [c9]) rfl (y := y9) rfl)
  simp only [strE, intE, List.cons.injEq, and_true] at e0 e1 e2 e3 e4 e5 e6 e7 e8 e9
  subst e0 e1 e2 e3 e4 e5 e6 e7 e8 e9
  refine ⟨⟨kd, lo, hi, br, bd, op, su, ps, ms, os⟩, ⟨_, _, _, rfl, hp, hm, ho⟩, fun hb => ?_⟩
  simp only [Rows.uptoBulk, Rows.uptoBulkAll, List.map_cons, List.map_nil] at hb
  exact ⟨wf_u8 hk, hbd (by omega), hop (by omega), hps (by omega), hms (by omega), hos (by omega)⟩
theorem opens_graph : OpensSl enc W 23 tyE TySm := opens_slice Tryz.underlying23 k42 opens_ty
theorem tidy_of {g : Graph} (h : g.length ≤ 1048576 ∧ ∀ t ∈ g, TySm 1048576 t) : Tidy g :=
  ⟨h.1, fun t ht => ⟨⟨(h.2 t ht).brand, (h.2 t ht).opaq, (h.2 t ht).parts.1, (h.2 t ht).parts.2, (h.2 t ht).methods.1, (h.2 t ht).methods.2, (h.2 t ht).overs.1, (h.2 t ht).overs.2⟩, (h.2 t ht).kind⟩⟩
end
end Go.Proofs.YtldnjnnhfeobdaaGreatDoor
/- What all laws of the seat share: how their answer is told, what their rows list. No condition. -/
namespace Go.Proofs.YtldnjnnhfeobdaaGreatDoor
set_option linter.all false
set_option linter.unusedSimpArgs false
set_option linter.unusedVariables false
open Go.RowKit Go.ChangeShapes Go.WideShapes Go.ChangeAt

theorem own : ownKnob Tryz.prog.godebug = none := by kernel_rfl
theorem laidOut : laidOutB Tryz.prog = true := by kernel_rfl
/-- the tables that a row lists -/
def tabs : List (String × DataW Unit) := [("math/bits.deBruijn32tab", Rows.laid_math_bits_deBruijn32tab), ("math/bits.deBruijn64tab", Rows.laid_math_bits_deBruijn64tab), ("internal/strconv.uint64pow10", Rows.laid_internal_strconv_uint64pow10)]
theorem glob_of {W : World} (h : laidMetH Tryz.prog tabs W) (hs : W.ShapedOpen Tryz.prog) : Glob W := by
  refine ⟨Go.Proofs.cell_of_shapedOpen_int (zero := #[.int .i64 0]) (t := 3) hs (of_decide_eq_true (by kernel_rfl)) (by kernel_rfl) rfl (by kernel_rfl) (by kernel_rfl) Tryz.underlying3, ?_⟩
  have h2 : laidMetH Tryz.prog [("internal/strconv.uint64pow10", Rows.laid_internal_strconv_uint64pow10)] W := h.filter (fun x => x.1 == "internal/strconv.uint64pow10")
  have h3 : laidMet Tryz.prog [("internal/strconv.uint64pow10", Lib.tabData .u64 Lib.pow10Tab)] W := h2
  exact Lib.tabIs_of_head (rest := []) (g := 1) (t := 257) (e := 206) (n := 20) (by kernel_rfl) (by kernel_rfl) (by kernel_rfl) (by kernel_rfl) (by kernel_rfl) (by kernel_rfl) h3
set_option maxRecDepth 100000 in
theorem open_graph' {H : Type} {enc : TypeId × Value → H} {W : World} {base : Nat} {v : Value} {d : DataW H} {p : List MemPlace} (n : Nat) (hval : Value.okWide Tryz.prog W .any base 23 v) (h : DataW.Trod enc Tryz.prog W 0 (fun _ => true) true 23 v d p) :
    ∃ g, Sl tyE W v g ∧ (Rows.uptoBulk d ≤ n → g.length ≤ n ∧ ∀ t ∈ g, TySm n t) := by
  obtain ⟨a, len, cap, rfl⟩ := okWide_slice Tryz.underlying23 hval
  obtain ⟨f, hf⟩ := h
  obtain ⟨v', g, e, hg, hs⟩ := opens_graph n _ _ _ hf
  have e' : Value.slice a len cap = v' := List.cons.inj e |>.1
  subst e'
  exact ⟨g, hg, hs⟩
set_option maxRecDepth 100000 in
theorem open_nums' {H : Type} {enc : TypeId × Value → H} {W : World} {base : Nat} {v : Value} {d : DataW H} {p : List MemPlace} (n : Nat) (hval : Value.okWide Tryz.prog W .any base 24 v) (h : DataW.Trod enc Tryz.prog W 0 (fun _ => true) true 24 v d p) :
    ∃ xs, Sl intE W v xs ∧ (Rows.uptoBulk d ≤ n → xs.length ≤ n) := by
  obtain ⟨a, len, cap, rfl⟩ := okWide_slice Tryz.underlying24 hval
  obtain ⟨f, hf⟩ := h
  obtain ⟨v', g, e, hg, hs⟩ := opens_ints n _ _ _ hf
  have e' : Value.slice a len cap = v' := List.cons.inj e |>.1
  subst e'
  exact ⟨g, hg, fun hb => (hs hb).1⟩
set_option maxRecDepth 100000 in
theorem open_graph {H : Type} {enc : TypeId × Value → H} {W : World} {base : Nat} {v : Value} {d : DataW H} {p : List MemPlace} (hval : Value.okWide Tryz.prog W .any base 23 v) (h : DataW.Trod enc Tryz.prog W 0 (fun _ => true) true 23 v d p) {B : Nat} (hB : B = 1048576) (hb : Rows.uptoBulk d ≤ B) :
    ∃ g, Sl tyE W v g ∧ Tidy g := by
  obtain ⟨g, hg, hs⟩ := open_graph' B hval h
  have hs := hs hb
  rw [hB] at hs
  exact ⟨g, hg, tidy_of hs⟩
set_option maxRecDepth 100000 in
theorem open_nums {H : Type} {enc : TypeId × Value → H} {W : World} {base : Nat} {v : Value} {d : DataW H} {p : List MemPlace} (hval : Value.okWide Tryz.prog W .any base 24 v) (h : DataW.Trod enc Tryz.prog W 0 (fun _ => true) true 24 v d p) {B : Nat} (hB : B = 1048576) (hb : Rows.uptoBulk d ≤ B) :
    ∃ xs, Sl intE W v xs ∧ xs.length ≤ 1048576 := by
  obtain ⟨g, hg, hs⟩ := open_nums' B hval h
  have hs := hs hb
  rw [hB] at hs
  exact ⟨g, hg, hs⟩
theorem trodAll_stays {H : Type} {enc : TypeId × Value → H} {W W' : World} (hx : Ext W W') : ∀ {ts : List TypeId} {vs : List Value} {ds : List (DataW H)} {ps : List MemPlace}, (∀ t ∈ ts, Tryz.prog.readableRec t = true ∧ t < Tryz.prog.types.size) →
    DataW.TrodAll enc Tryz.prog W 0 (fun _ => true) true ts vs ds ps → (∀ p ∈ ps, p.block < W.heap.size) → DataW.TrodAll enc Tryz.prog W' 0 (fun b => decide (b < W.heap.size)) true ts vs ds ps
  | [], [], [], _, _, h, _ => h
  | t :: ts, v :: vs, d :: ds, ps, ht, ⟨p, q, h1, h2, e⟩, hs => by
    subst e
    exact ⟨p, q, Below.trod laidOut (ht t (by simp)).1 (ht t (by simp)).2 h1 hx (fun x hx => hs x (by simp [hx])), trodAll_stays hx (fun t h => ht t (by simp [h])) h2 (fun x hx => hs x (by simp [hx])), rfl⟩
/-- a law that returns true, and lays nothing but new memory, answers as its row says -/
theorem law_post {H : Type} {enc : TypeId × Value → H} {fn : Func} {s : ChangeSpec} {W W' : World} {args : Array Value} {ds gs : List (DataW H)} {before : List MemPlace} (hv : s.vars = []) (hr : fn.resultTypes = #[4])
    (hp : ∀ t ∈ fn.params.toList, Tryz.prog.readableRec t = true ∧ t < Tryz.prog.types.size) (hs : s.fn H ds = { results := [.lit (.bool true)], args := ds })
    (hW : DataW.Whole enc Tryz.prog fn.params.toList s.vars false W args.toList ds gs before) (hx : Ext W W') :
    s.post enc Tryz.prog fn false true false false W args (.bool true) W' := by
  have hW' := hW
  obtain ⟨p, q, hA, hV, rfl, _, _⟩ := hW
  rw [hv] at hV
  obtain ⟨rfl, rfl⟩ := trodVars_none hV
  rw [List.append_nil] at hW'
  have hlt : ∀ x ∈ p, x.block < W.heap.size := fun x h => hW'.lt x h
  refine ⟨ds, [], p, [], p, [], hW', ?_, ?_, ?_, ?_, fun h => by cases h⟩
  · rw [List.append_nil, hs, hr]
    exact trodAll_mk1 (shut_bool Tryz.underlying4 _)
  · rw [List.append_nil, hs]
    exact trodAll_stays hx hp hA hlt
  · rw [List.append_nil, hs, hv]
    exact rfl
  · exact Below.frame hx _
end Go.Proofs.YtldnjnnhfeobdaaGreatDoor
