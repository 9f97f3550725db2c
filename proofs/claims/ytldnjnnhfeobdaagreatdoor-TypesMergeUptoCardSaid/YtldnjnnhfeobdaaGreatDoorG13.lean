/- Parts of the proof, joined: Contracts of the reference: Classes and Merge. Conditions: a tidy graph; The law TypesMerge returns true. Conditions: a tidy graph. -/
import Derived.Test.YtldnjnnhfeobdaaGreatDoorG10
import Derived.Test.YtldnjnnhfeobdaaGreatDoorG11
import Derived.Test.YtldnjnnhfeobdaaGreatDoorG09
import Derived.Test.YtldnjnnhfeobdaaGreatDoorG12
set_option linter.all false
set_option linter.unusedSimpArgs false
set_option linter.unusedVariables false
namespace Go.Proofs.YtldnjnnhfeobdaaGreatDoor
open Go.RowKit Go.Shelf
set_option maxRecDepth 100000 in
set_option maxHeartbeats 4000000 in
theorem rClasses_any (w : World) (gv : Value) (g : Graph) (hg : Sl tyE w gv g) (hT : Tidy g) :
  Calls Tryz.prog 34 #[gv] w (ClassesPost w g) := by
 have hop := rchecked_any w gv (.slice none 0 0) g [] hg hT (Sl.nil _ _) (by simp)
 have hcl := fun (hW : WF g) (w' : World) (hx : Ext w w') => rclasses_any w' gv g (hg.mono hx) hT hW
 obtain ⟨A, cap, rfl⟩ := hg.len
 unfold ClassesPost classesR
 by_cases h0 : errG g [] = 0
 ·rw [if_pos h0]
  rw [h0] at hop ⊢
  have hcl := hcl (errG_zero h0).1
  have Hop := Lib.hid hop
  have Hcl := Lib.hid hcl
  clear hop hcl hg hT h0
  go_enter Tryz.func34, Tryz.ntmps34
  go_wp2_with fail
  refine Hop.out.mono ?_
  rintro e w1 ⟨rfl, hx1⟩
  have Hx1 := Lib.hid hx1
  clear hx1
  go_wp2_with fail
  refine (Hcl.out _ Hx1.out).mono ?_
  rintro e w2 ⟨v, rfl, hv, hx2⟩
  have Hx2 := Lib.hid (Hx1.out.trans hx2)
  have Hv := Lib.hid hv.any
  clear hv hx2
  go_wp2_with fail
  go_ret2
  exact ⟨v, rfl, Hv.out, Hx2.out⟩
 ·rw [if_neg h0]
  have hne : (errG g [] != 0) = true := by simpa using h0
  generalize errG g [] = er at hop hne ⊢
  have Hop := Lib.hid hop
  clear hop hcl hg hT h0
  go_enter Tryz.func34, Tryz.ntmps34
  go_wp2_with fail
  refine Hop.out.mono ?_
  rintro e w1 ⟨rfl, hx1⟩
  go_wp2_with fail
  go_ret2
  exact ⟨_, rfl, Sl.nil _ _, hx1⟩
/-- the reference's list of places behind k rounds -/
def toR (cs : List Nat) (n k : Nat) : List Nat := (List.range n).map fun i => if i < k then repsN cs (cs.getD i 0) else 0
theorem toR_length (cs : List Nat) (n k : Nat) : (toR cs n k).length = n := by simp [toR]
theorem toR_zero (cs : List Nat) (n : Nat) : toR cs n 0 = List.replicate n 0 := by
 unfold toR
 refine List.ext_getElem? fun i => ?_
 rw [List.getElem?_map, List.getElem?_replicate]
 by_cases hi : i < n
 ·rw [List.getElem?_range hi, if_pos hi]; rfl
 ·rw [List.getElem?_eq_none (by simp; omega), if_neg hi]; rfl
theorem toR_getD (cs : List Nat) {n i : Nat} (k : Nat) (hi : i < n) : (toR cs n k).getD i 0 = if i < k then repsN cs (cs.getD i 0) else 0 := by
 unfold toR
 rw [List.getD_eq_getElem?_getD, List.getElem?_map, List.getElem?_range hi]; rfl
theorem toR_set (cs : List Nat) {n k : Nat} (hk : k < n) {v : Nat} (hv : v = repsN cs (cs.getD k 0)) {L : List Nat} (hL : L = toR cs n k) : L.set k v = toR cs n (k + 1) := by
 subst hL hv
 refine List.ext_getElem? fun i => ?_
 unfold toR
 rw [List.getElem?_set, List.length_map, List.length_range]
 by_cases e : k = i
 ·subst e
  rw [if_pos rfl, if_pos hk, List.getElem?_map, List.getElem?_range hk]
  simp
 ·rw [if_neg e, List.getElem?_map, List.getElem?_map]
  by_cases hi : i < n
  ·rw [List.getElem?_range hi]
   simp only [Option.map_some, Option.some.injEq]
   by_cases h : i < k
   ·rw [if_pos h, if_pos (by omega)]
   ·rw [if_neg h, if_neg (by omega)]
  ·rw [List.getElem?_eq_none (by simp; omega)]; rfl
theorem set_twice (L : List Nat) (k a b : Nat) : (L.set k a).set k b = L.set k b := by simp
theorem toR_last {g : Graph} (hg : WF g) : (toR (classesG g) g.length g.length).map (fun (n : Nat) => (n : Int)) = mergeTo g := by
 rw [mergeTo_at hg]
 unfold toR
 rw [List.map_map]
 refine List.map_congr_left fun i hi => ?_
 rw [List.mem_range] at hi
 simp only [Function.comp]
 rw [if_pos hi]
 rfl
theorem toR_turn {g : Graph} (hg : WF g) {i : Nat} (hi : i < g.length) :
  turnT (lookI ((toR (classesG g) g.length g.length).map fun (n : Nat) => (n : Int))) (getT g i) = turnT (toF (classesG g) (placeL (classesG g) g.length g.length)) (getT g i) := by
 refine turnT_congr fun r hr => ?_
 obtain ⟨h0, h1⟩ := (hg.fine (getT_mem hi)).refs r hr
 obtain ⟨k, rfl⟩ := Int.eq_ofNat_of_zero_le h0
 have hk : k < g.length := by omega
 rw [toF_merged hg hk, toR_last hg, mergeTo_at hg]
 unfold lookI
 rw [Int.toNat_natCast, List.getD_eq_getElem?_getD, List.getElem?_map, List.getElem?_range hk]
 rfl
/-- what holds while the reference merges -/
structure MSr (w : World) (Bp : Nat) (Ac : Option Addr) (cc n : Nat) (cs pl : List Nat) (wr : World) : Prop where
 ext : Ext w wr
 row : IntRow wr Bp pl
 cls : SlF (fun b => b < Bp) intE wr (.slice Ac n cc) (cs.map fun (n : Nat) => (n : Int))
 len : cs.length = n ∧ pl.length = n
 nb : w.heap.size ≤ Bp
section
variable {w wr wr' : World} {Bp : Nat} {Ac : Option Addr} {cc n : Nat} {cs pl : List Nat}
theorem MSr.later (h : MSr w Bp Ac cc n cs pl wr) (hx : Ext wr wr') : MSr w Bp Ac cc n cs pl wr' :=
 ⟨h.ext.trans hx, h.row.ext hx, h.cls.ext hx, h.len, h.nb⟩
theorem MSr.set (h : MSr w Bp Ac cc n cs pl wr) (i v : Nat) : MSr w Bp Ac cc n cs (pl.set i v) (wr.setCell ⟨Bp, i, none⟩ (.int .i64 (v : Int))) :=
 ⟨h.ext.setCell h.nb _, h.row.set i v, h.cls.mono (fun b hb _ => Below.heap_setCell _ _ _ _ (by simp; omega)) (fun _ h _ => h), ⟨h.len.1, by simp [h.len.2]⟩, h.nb⟩
theorem MSr.class (h : MSr w Bp Ac cc n cs pl wr) (i : Nat) (hi : i < n) : ∃ b off, Ac = some ⟨b, off, none⟩ ∧ wr.cell? ⟨b, off + i, none⟩ = some (.int .i64 (cs.getD i 0 : Nat)) := by
 obtain ⟨A, c, e, hc⟩ := Sl.nat h.cls.any
 simp only [Value.slice.injEq] at e
 obtain ⟨rfl, _, _⟩ := e
 exact hc i (by rw [h.len.1]; exact hi)
end
set_option maxRecDepth 100000 in
set_option maxHeartbeats 16000000 in
theorem rmerge_any (w : World) (gv : Value) (g : Graph) (hg : Sl tyE w gv g) (hT : Tidy g) :
  Calls Tryz.prog 35 #[gv] w (MergePost w g) := by
 have hop := rchecked_any w gv (.slice none 0 0) g [] hg hT (Sl.nil _ _) (by simp)
 have hcl := fun (hW : WF g) (w' : World) (hx : Ext w w') => rclasses_any w' gv g (hg.mono hx) hT hW
 have hn := hT.len
 have hmk := fun w' => make_zeros w' g.length hn
 obtain ⟨A, cap, rfl, hs⟩ := hg.ty
 unfold MergePost
 by_cases h0 : errG g [] = 0
 ·rw [h0] at hop ⊢
  have hW := (errG_zero h0).1
  have hcl := hcl hW
  have hcs : ∀ k, k < g.length → (classesG g).getD k 0 < g.length ∧ (classesG g).getD ((classesG g).getD k 0) 0 = (classesG g).getD k 0 := fun k hk => ⟨clsN_lt hW k hk, clsG_idem hW hk⟩
  have hle : ∀ k, k < g.length → (classesG g).getD k 0 ≤ k := fun k hk => (classesN_facts hW.abs).1.le k hk
  have hcl2 := classesG_length g hW
  have hfine := fun i (hi : i < g.length) => hW.fine (getT_mem hi)
  have htu := fun i (hi : i < g.length) => toR_turn hW hi
  have hto := toR_last hW
  have hmg : mergeG g = mergeL g (classesG g) (placeL (classesG g) g.length g.length) g.length := by unfold mergeG; rw [if_pos h0]
  rw [← hto, hmg]
  generalize classesG g = cs at *
  generalize placeL cs g.length g.length = pl at *
  have Hop := Lib.hid hop
  have Hcl := Lib.hid hcl
  have Hcs := Lib.hid hcs
  have Hle := Lib.hid hle
  have Hl := Lib.hid hcl2
  have Hs := Lib.hid hs
  have Hfine := Lib.hid hfine
  have Htu := Lib.hid htu
  clear hop hcl hcs hle hcl2 hs hg hT h0 hW hfine htu hto hmg
  go_enter Tryz.func35, Tryz.ntmps35
  go_wp2_with fail
  refine Hop.out.mono ?_
  rintro e w1 ⟨rfl, hx1⟩
  have Hx1 := Lib.hid hx1
  clear hx1
  go_wp2_with fail
  refine (Hcl.out _ Hx1.out).mono ?_
  rintro e w2 ⟨v2, rfl, hv2, hx2⟩
  obtain ⟨Ac, cc, e2⟩ := hv2.any.len
  rw [List.length_map, Hl.out] at e2
  subst e2
  have hst : MSr w w2.heap.size Ac cc g.length cs (toR cs g.length 0) (w2.alloc (zeros g.length)) := by
   have e2 := heap_alloc_self w2 (zeros g.length)
   have hx := Hx1.out.trans hx2
   have hsz := hx.size
   refine ⟨hx.alloc _, ?_, ?_, ⟨Hl.out, toR_length _ _ _⟩, hsz⟩
   ·rw [toR_zero]; exact e2
   ·have h := hv2.mono (G := fun b => b < w2.heap.size) (fun _ _ _ => rfl) (fun b _ hlt => hlt)
    exact h.ext ((Ext.refl _).alloc _)
  have Hst := Lib.hid hst
  clear hst hv2 hx2 Hx1
  go_wp2_with fail
  generalize w2.alloc (zeros g.length) = w3 at Hst ⊢
  generalize w2.heap.size = Bp at Hst ⊢
  go_loopw [8, 9] (fun nn u wr => ∃ k : Nat, k ≤ g.length ∧ u = .int .i64 k ∧ nn = .int .i64 (repsN cs k : Nat) ∧ Hid (MSr w Bp Ac cc g.length cs (toR cs g.length k) wr)) (fun _ u _ => g.length - (intOf u).toNat)
  case atStart => exact ⟨0, by omega, rfl, rfl, Hst⟩
  case round =>
   clear Hst
   obtain ⟨k, hk, rfl, rfl, Hst⟩ := hrel
   have hrk := repsN_le cs k
   by_cases hlt : k < g.length
   ·obtain ⟨b, off, rfl, c1⟩ := Hst.out.class k hlt
    have l1 := cell_lt c1
    obtain ⟨hc1, hc2⟩ := Hcs.out k hlt
    have hcle := Hle.out k hlt
    have cr := Hst.out.row.cell (cs.getD k 0) (by rw [toR_length]; exact hc1)
    have ck := Hst.out.row.cell k (by rw [toR_length]; exact hlt)
    have fr := Hst.out.row.frozen k
    have lr := Hst.out.row.lt
    have i0 : (0 : Int) ≤ (k : Int) := by omega
    have i1 : (k : Int) < (g.length : Int) := by omega
    have i2 : (0 : Int) ≤ ((cs.getD k 0 : Nat) : Int) := by omega
    have i3 : ((cs.getD k 0 : Nat) : Int) < (g.length : Int) := by omega
    have Hst2 := Lib.hid (Hst.out.set k ((toR cs g.length k).getD (cs.getD k 0) 0))
    have Hval := Lib.hid (toR_getD cs k hc1)
    by_cases he : cs.getD k 0 = k
    ·have hsuc := repsN_succ cs k
     rw [if_pos he] at hsuc
     have Hsuc := Lib.hid hsuc
     have Hset := Lib.hid (toR_set cs hlt (v := repsN cs k) (by rw [he]) rfl)
     have He := Lib.hid he
     rw [he] at c1 cr Hst2 i2 i3
     clear hsuc he hc1 hc2 hcle Hval ck
     generalize (toR cs g.length k).getD k 0 = z0 at *
     go_upto_region 11 with fail
     have hst3 := Hst2.out.set k (repsN cs k)
     rw [set_twice, Hset.out] at hst3
     have Hst3 := Lib.hid hst3
     clear c1 cr fr lr hst3 Hst l1
     generalize wr.setCell ⟨Bp, k, none⟩ (.int .i64 (z0 : Int)) = wq at *
     obtain ⟨b', off', e', c1⟩ := Hst2.out.class k hlt
     cases e'
     rw [He.out] at c1
     have l1 := cell_lt c1
     have cr := Hst2.out.row.cell k (by rw [List.length_set, toR_length]; exact hlt)
     have fr := Hst2.out.row.frozen k
     have lr := Hst2.out.row.lt
     generalize ((toR cs g.length k).set k z0).getD k 0 = z1 at *
     go_wp2_with fail
     go_roundw
     case rel => exact ⟨k + 1, by omega, by go_num, by rw [Hsuc.out]; go_num, Hst3⟩
     case measure => simp [intOf]; omega
    ·have hsuc := repsN_succ cs k
     rw [if_neg he, Nat.add_zero] at hsuc
     have Hsuc := Lib.hid hsuc
     have hclt : cs.getD k 0 < k := by omega
     have hv := Hval.out
     rw [if_pos hclt, hc2] at hv
     have Hset := Lib.hid (toR_set cs hlt hv rfl)
     have hne : (((cs.getD k 0 : Nat) : Int) == (k : Int)) = false := by rw [beq_eq_false_iff_ne]; omega
     have Hcl := Lib.hid (fun (w' : World) (pl' : List Nat) (h : MSr w Bp (some ⟨b, off, none⟩) cc g.length cs pl' w') => h.class k hlt)
     clear hsuc he hc1 hc2 hcle Hval hclt hv
     generalize (toR cs g.length k).getD (cs.getD k 0) 0 = z0 at *
     generalize cs.getD k 0 = c at *
     go_upto_region 11 with fail
     have hst3 := Hst2.out
     rw [Hset.out] at hst3
     have Hst3 := Lib.hid hst3
     clear c1 cr ck fr lr hst3 Hst l1
     generalize wr.setCell ⟨Bp, k, none⟩ (.int .i64 (z0 : Int)) = wq at *
     obtain ⟨b', off', e', c1⟩ := Hcl.out _ _ Hst2.out
     cases e'
     have l1 := cell_lt c1
     go_wp2_with fail
     go_roundw
     case rel => exact ⟨k + 1, by omega, by go_num, by rw [Hsuc.out]; rfl, Hst3⟩
     case measure => simp [intOf]; omega
   ·have hkn : k = g.length := by omega
    subst hkn
    have hi1 : ¬ ((g.length : Nat) : Int) < (g.length : Int) := by omega
    have Hsl := Lib.hid (show ∀ w', Ext wr w' → Sl intE w' (.slice (some ⟨Bp, 0, none⟩) g.length g.length) ((toR cs g.length g.length).map fun (n : Nat) => (n : Int)) from fun w' hx => by
     have h := (Hst.out.row.ext hx).sl g.length (by rw [toR_length]; exact Nat.le_refl _)
     rwa [toR_length] at h)
    clear hk hrk hlt
    go_wp2_with fail
    obtain ⟨wo, rfl⟩ : ∃ wo : World, wo = wr := ⟨_, rfl⟩
    go_loopw [10, 11] (fun o u wr => ∃ k : Nat, k ≤ g.length ∧ u = .int .i64 k ∧ Hid (Ext wo wr) ∧ Hid (Own (New w) tyE wr wo.heap.size 42 o (mergeL g cs pl k))) (fun _ u _ => g.length - (intOf u).toNat)
    case atStart => exact ⟨0, by omega, rfl, Lib.hid (Ext.refl _), Lib.hid (Own.nil _ _ _ _ _)⟩
    case round =>
     obtain ⟨k, hk, rfl, Hx, Hown⟩ := hrel
     have Hst2 := Lib.hid (Hst.out.later Hx.out)
     have hsz0 := Hst2.out.ext.size
     have hmk := mergeL_le g cs pl k
     by_cases hlt : k < g.length
     ·obtain ⟨b, off, vp, vm, vo, rfl, hat, hof⟩ := Hs.out k hlt
      rw [← getT_lt hlt] at hat hof
      have hrt := fun w' (hx : Ext wr w') => rturned_any w' g.length (getT g k) vp vm vo _ _ (hof.mono (Hst2.out.ext.trans hx)) (Hfine.out k hlt) (Hsl.out w' (Hx.out.trans hx)) (by rw [List.length_map, toR_length]; omega) (fun r hr => by rw [List.length_map, toR_length]; exact (Hfine.out k hlt).refs r hr)
      rw [Htu.out k hlt] at hrt
      obtain ⟨A1, c1, e1⟩ := hof.parts.len
      obtain ⟨A2, c2, e2⟩ := hof.methods.len
      obtain ⟨A3, c3, e3⟩ := hof.overs.len
      subst e1 e2 e3
      unfold tyV at hrt
      have Hrt := Lib.hid hrt
      obtain ⟨d0, d1, d2, d3, d4, d5, d6, d7, d8, d9⟩ := hat.mono Hst2.out.ext
      have ld := cell_lt d0
      obtain ⟨bc, oc, rfl, cc1⟩ := Hst2.out.class k hlt
      have lc := cell_lt cc1
      have i0 : (0 : Int) ≤ (k : Int) := by omega
      have i1 : (k : Int) < (g.length : Int) := by omega
      clear hof hat hrt
      by_cases he : cs.getD k 0 = k
      ·have hsuc := mergeL_succ g cs pl k
       rw [if_pos he] at hsuc
       rw [he] at cc1
       have Hsuc := Lib.hid hsuc
       clear hsuc he
       generalize getT g k = t at *
       go_wp2_with fail
       refine (Hrt.out _ (Ext.refl _)).mono ?_
       rintro e w5 ⟨v5, rfl, ⟨cs5, hrel, rfl⟩, hx5⟩
       have hown1 := Hown.out.kept hx5
       have Hlt : ∀ k, u10.ownBlock = some k → k < wr.heap.size := fun k hk => (Hown.out.lt k hk).2
       have Hrel : Hid (tyE.rel (fun b => New w b ∧ some b ≠ u10.ownBlock) w5 (turnT (toF cs pl) t) cs5) := Lib.hid (tyE.mono _ _ _ _ _ _ (fun _ _ _ => rfl) (fun b hb _ => ⟨by unfold New at hb ⊢; omega, fun e => by have h1 := Hlt b e.symm; have h2 : _ ≤ b := hb; omega⟩) hrel)
       obtain ⟨_, _, _, rfl, ⟨_, _, rfl, _⟩, ⟨_, _, rfl, _⟩, ⟨_, _, rfl, _⟩⟩ := hrel
       have Hown1 := Lib.hid hown1
       have Hx6 := Lib.hid (Hx.out.trans hx5)
       have hsz := Hx6.out.size
       clear hown1 Hown hx5 Hlt d0 d1 d2 d3 d4 d5 d6 d7 d8 d9 ld cc1 lc
       simp only [pack]
       go_wp2_with (at_builtin; refine own_append tyE wo.heap.size rfl _ _ 23 42 144 rfl slice23 _ _ (turnT (toF cs pl) t) _ rfl rfl Hown1.out Hrel.out ?c1 ?c2 ?c3 ?_)
       case c1 => exact hsz
       case c2 => omega
       case c3 => decide
       intro v2 w6 hown2 hg2
       rw [← Hsuc.out] at hown2
       have Hx7 := Lib.hid (show Ext wo w6 from Below.grown Hx6.out hg2 hsz (fun k hk => (Hown1.out.lt k hk).1))
       have Hown2 := Lib.hid hown2
       clear hg2 Hown1 Hx6 Hrel hown2
       go_wp2_with fail
       go_roundw
       case rel => exact ⟨k + 1, by omega, by go_num, Hx7, Hown2⟩
       case measure => simp [intOf]; omega
      ·have hsuc := mergeL_succ g cs pl k
       rw [if_neg he, List.append_nil] at hsuc
       have hne : (((cs.getD k 0 : Nat) : Int) == (k : Int)) = false := by rw [beq_eq_false_iff_ne]; omega
       have Hsuc := Lib.hid hsuc
       generalize cs.getD k 0 = c at *
       clear hsuc he
       generalize getT g k = t at *
       go_wp2_with fail
       go_roundw
       case rel => exact ⟨k + 1, by omega, by go_num, Hx, by rw [Hsuc.out]; exact Hown⟩
       case measure => simp [intOf]; omega
     ·have hkn : k = g.length := by omega
      subst hkn
      have hsl := Hown.out.sl (F := New w) (fun b hb => by have h := Hst.out.ext.size; show w.heap.size ≤ b; omega)
      have Hsl2 := Lib.hid hsl.any
      have Hfin := Lib.hid (Hsl.out _ Hx.out)
      clear hsl hlt
      go_wp2_with fail
      go_ret3
      exact ⟨_, _, rfl, Hsl2.out, Hfin.out, Hst2.out.ext⟩
 ·have hmg : mergeG g = [] := by unfold mergeG; rw [if_neg h0]
  have hto : mergeTo g = [] := by unfold mergeTo; rw [if_neg h0]
  rw [hmg, hto]
  have hne : (errG g [] != 0) = true := by simpa using h0
  generalize errG g [] = er at hop hne ⊢
  have Hop := Lib.hid hop
  clear hop hcl hg hs hT h0 hmk hmg hto
  go_enter Tryz.func35, Tryz.ntmps35
  go_wp2_with fail
  refine Hop.out.mono ?_
  rintro e w1 ⟨rfl, hx1⟩
  go_wp2_with fail
  go_ret3
  exact ⟨_, _, rfl, Sl.nil _ _, Sl.nil _ _, hx1⟩
end Go.Proofs.YtldnjnnhfeobdaaGreatDoor
/- The law TypesMerge returns true. Conditions: a tidy graph. -/
namespace Go.Proofs.YtldnjnnhfeobdaaGreatDoor
open Go.RowKit Go.Shelf
theorem tidy_mergeG {g : Graph} (h : Tidy g) : Tidy (mergeG g) := by
 by_cases h0 : errG g [] = 0
 ·exact tidy_merge h (errG_zero h0).1
 ·have e : mergeG g = [] := by unfold mergeG; rw [if_neg h0]
  rw [e]
  exact ⟨by simp, fun t ht => by cases ht⟩
theorem classesR_len {g : Graph} (h : Tidy g) : (classesR g).length ≤ 1048576 := by
 unfold classesR
 split
 ·rename_i h0
  rw [List.length_map, classesG_length g (errG_zero h0).1]
  exact h.len
 ·simp
theorem mergeTo_len {g : Graph} (h : Tidy g) : (mergeTo g).length ≤ 1048576 := by
 unfold mergeTo
 split
 ·rename_i h0
  rw [List.length_map, classesG_length g (errG_zero h0).1]
  exact h.len
 ·simp
set_option maxRecDepth 100000 in
set_option maxHeartbeats 8000000 in
theorem merge_law (w : World) (gv : Value) (g : Graph) (hg : Sl tyE w gv g) (hT : Tidy g) (hG : Glob w) :
  Calls Tryz.prog 8 #[gv] w (Ret w (.bool true)) := by
 have Hli := Lib.hid (light_any w gv g hg hT)
 have Hal := Lib.hid (fun w' (hx : Ext w w') => alive_any w' (hG.mono hx))
 have hcl := fun w' (hx : Ext w w') => Classes_any w' gv g (hg.mono hx) hT (hG.mono hx)
 have hrc := fun w' (hx : Ext w w') => rClasses_any w' gv g (hg.mono hx) hT
 have hme := fun w' (hx : Ext w w') => merge_any w' gv g (hg.mono hx) hT (hG.mono hx)
 have hrm := fun w' (hx : Ext w w') => rmerge_any w' gv g (hg.mono hx) hT
 have hTm := tidy_mergeG hT
 have hl1 := classesR_len hT
 have hl2 := mergeTo_len hT
 unfold ClassesPost at hcl hrc
 unfold MergePost at hme hrm
 have hsm := fun w' u v (hu : Sl tyE w' u (mergeG g)) (hv : Sl tyE w' v (mergeG g)) => same_any w' u v _ _ hu hv hTm hTm
 have hrs := fun w' u v (hu : Sl tyE w' u (mergeG g)) (hv : Sl tyE w' v (mergeG g)) => rsame_any w' u v _ _ hu hv hTm hTm
 have hs1 := fun w' u v (hu : Sl intE w' u (classesR g)) (hv : Sl intE w' v (classesR g)) => sameInts_any w' u v _ _ hu hv hl1 hl1
 have hs2 := fun w' u v (hu : Sl intE w' u (mergeTo g)) (hv : Sl intE w' v (mergeTo g)) => sameInts_any w' u v _ _ hu hv hl2 hl2
 simp only [sameGr_refl] at hsm hrs
 simp only [decide_true] at hs1 hs2
 generalize mergeG g = m at *
 generalize mergeTo g = tl at *
 generalize classesR g = cl at *
 generalize errG g [] = er at *
 have hml := hTm.len
 have Hcl := Lib.hid hcl
 have Hrc := Lib.hid hrc
 have Hme := Lib.hid hme
 have Hrm := Lib.hid hrm
 have Hsm := Lib.hid hsm
 have Hrs := Lib.hid hrs
 have Hs1 := Lib.hid hs1
 have Hs2 := Lib.hid hs2
 obtain ⟨A, cap, eg⟩ := hg.len
 subst eg
 have hn := hT.len
 clear hg hT hG hcl hrc hme hrm hsm hrs hs1 hs2 hTm
 cases hl : lightG g with
 | false =>
  rw [hl] at Hli
  go_enter Tryz.func8, Tryz.ntmps8
  go_wp2_with fail
  refine Hli.out.mono ?_
  rintro e w1 ⟨rfl, hx1⟩
  go_wp2_with fail
  refine (Hal.out _ hx1).mono ?_
  rintro e w2 ⟨rfl, hx2⟩
  go_wp2_with fail
  go_ret
  exact ⟨rfl, hx1.trans hx2⟩
 | true =>
  rw [hl] at Hli
  clear hl
  go_enter Tryz.func8, Tryz.ntmps8
  go_wp2_with fail
  refine Hli.out.mono ?_
  rintro e w1 ⟨rfl, hx1⟩
  go_wp2_with fail
  refine (Hcl.out _ hx1).mono ?_
  rintro e w2 ⟨v2, rfl, hv2, hx2⟩
  have Hx2 := Lib.hid (hx1.trans hx2)
  obtain ⟨A2, c2, e2⟩ := hv2.len
  subst e2
  have Hv2 := Lib.hid hv2
  clear hx1 hx2 hv2
  go_wp2_with fail
  refine (Hrc.out _ Hx2.out).mono ?_
  rintro e w3 ⟨v3, rfl, hv3, hx3⟩
  have Hx3 := Lib.hid (Hx2.out.trans hx3)
  obtain ⟨A3, c3, e3⟩ := hv3.len
  subst e3
  have Hv3 := Lib.hid hv3
  replace Hv2 := Lib.hid (Hv2.out.mono hx3)
  clear hx3 hv3
  go_wp2_with fail
  refine (Hme.out _ Hx3.out).mono ?_
  rintro e w4 ⟨v4, v5, rfl, hv4, hv5, hx4⟩
  have Hx4 := Lib.hid (Hx3.out.trans hx4)
  obtain ⟨A4, c4, e4⟩ := hv4.len
  obtain ⟨A5, c5, e5⟩ := hv5.len
  subst e4 e5
  have Hv4 := Lib.hid hv4
  have Hv5 := Lib.hid hv5
  replace Hv2 := Lib.hid (Hv2.out.mono hx4)
  replace Hv3 := Lib.hid (Hv3.out.mono hx4)
  clear hx4 hv4 hv5
  go_wp2_with fail
  refine (Hrm.out _ Hx4.out).mono ?_
  rintro e w5 ⟨v6, v7, rfl, hv6, hv7, hx5⟩
  have Hx5 := Lib.hid (Hx4.out.trans hx5)
  obtain ⟨A6, c6, e6⟩ := hv6.len
  obtain ⟨A7, c7, e7⟩ := hv7.len
  subst e6 e7
  have Hv6 := Lib.hid hv6
  have Hv7 := Lib.hid hv7
  replace Hv2 := Lib.hid (Hv2.out.mono hx5)
  replace Hv3 := Lib.hid (Hv3.out.mono hx5)
  replace Hv4 := Lib.hid (Hv4.out.mono hx5)
  replace Hv5 := Lib.hid (Hv5.out.mono hx5)
  clear hx5 hv6 hv7
  go_wp2_with fail
  refine (Hal.out _ Hx5.out).mono ?_
  rintro e w6 ⟨rfl, hx6⟩
  have Hx6 := Lib.hid (Hx5.out.trans hx6)
  replace Hv2 := Lib.hid (Hv2.out.mono hx6)
  replace Hv3 := Lib.hid (Hv3.out.mono hx6)
  replace Hv4 := Lib.hid (Hv4.out.mono hx6)
  replace Hv5 := Lib.hid (Hv5.out.mono hx6)
  replace Hv6 := Lib.hid (Hv6.out.mono hx6)
  replace Hv7 := Lib.hid (Hv7.out.mono hx6)
  clear hx6
  go_wp2_with fail
  refine (Hs1.out _ _ _ Hv2.out Hv3.out).mono ?_
  rintro e w7 ⟨rfl, hx7⟩
  have Hx7 := Lib.hid (Hx6.out.trans hx7)
  replace Hv4 := Lib.hid (Hv4.out.mono hx7)
  replace Hv5 := Lib.hid (Hv5.out.mono hx7)
  replace Hv6 := Lib.hid (Hv6.out.mono hx7)
  replace Hv7 := Lib.hid (Hv7.out.mono hx7)
  clear hx7
  go_wp2_with fail
  refine (Hsm.out _ _ _ Hv4.out Hv6.out).mono ?_
  rintro e w8 ⟨rfl, hx8⟩
  have Hx8 := Lib.hid (Hx7.out.trans hx8)
  replace Hv4 := Lib.hid (Hv4.out.mono hx8)
  replace Hv5 := Lib.hid (Hv5.out.mono hx8)
  replace Hv6 := Lib.hid (Hv6.out.mono hx8)
  replace Hv7 := Lib.hid (Hv7.out.mono hx8)
  clear hx8
  go_wp2_with fail
  refine (Hrs.out _ _ _ Hv4.out Hv6.out).mono ?_
  rintro e w9 ⟨rfl, hx9⟩
  have Hx9 := Lib.hid (Hx8.out.trans hx9)
  replace Hv5 := Lib.hid (Hv5.out.mono hx9)
  replace Hv7 := Lib.hid (Hv7.out.mono hx9)
  clear hx9
  go_wp2_with fail
  refine (Hs2.out _ _ _ Hv5.out Hv7.out).mono ?_
  rintro e w10 ⟨rfl, hx10⟩
  go_wp2_with fail
  go_ret
  exact ⟨rfl, Hx9.out.trans hx10⟩
end Go.Proofs.YtldnjnnhfeobdaaGreatDoor
