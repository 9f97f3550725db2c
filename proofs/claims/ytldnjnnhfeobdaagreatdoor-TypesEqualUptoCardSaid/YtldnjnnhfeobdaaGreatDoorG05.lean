/- Parts of the proof, joined: Contract: CheckApart. Conditions: lengths below 2^20; Contract: Merge. Conditions: lengths below 2^20; Contract: Merge. Conditions: lengths below 2^20; Plain law: what the reference asks of a type is what the program asks; a walk up that comes back does so in as many steps as there are types. No condition; Contract: Digest. Conditions: lengths below 2^20; Contracts: a strings.Builder at the head of a writer: WriteString, String. Conditions: the text's length below 2^47; Contract: the text of a method. Conditions: lengths below 2^47; Contract: the line of a type. Conditions: a right type, lengths below 2^47. -/
import Derived.Laws.BytesArg
import Derived.RangeFuncBox
import Derived.RegionTactic
import Derived.ChangeAlike
import Derived.Deep.DeepCutAuto
import Derived.Test.YtldnjnnhfeobdaaGreatDoorG04
import Derived.Test.YtldnjnnhfeobdaaGreatDoorG02
import Derived.Test.YtldnjnnhfeobdaaGreatDoorG03
import Derived.Test.YtldnjnnhfeobdaaGreatDoorShelfP
set_option linter.all false
set_option linter.unusedSimpArgs false
set_option linter.unusedVariables false
namespace Go.Proofs.YtldnjnnhfeobdaaGreatDoor
open Go.RowKit Go.Shelf
/-- the way tells two types apart -/
def tellsI (g : Graph) : Nat → Nat → List Int → Bool
 | i, j, [] => !agN g i j
 | i, j, k :: w => agN g i j && (hasB (refsN g i).length k && tellsI g ((refsN g i).getD k.toNat 0) ((refsN g j).getD k.toNat 0) w)
def checkApartG (g : Graph) (a b : Int) (way : List Int) : Bool := if errG g [a, b] = 0 then tellsI g a.toNat b.toNat way else false
theorem refsN_length (g : Graph) (i : Nat) : (refsN g i).length = (refsL (getT g i)).length := by simp [refsN]
theorem refsL_nat {g : Graph} (h : WF g) {i : Nat} (hi : i < g.length) : refsL (getT g i) = (refsN g i).map fun (n : Nat) => (n : Int) := (refsN_cast h hi).symm
set_option maxRecDepth 100000 in
set_option maxHeartbeats 8000000 in
theorem checkApart_any (w : World) (gv v : Value) (g : Graph) (a b : Int) (way : List Int) (hg : Sl tyE w gv g) (hT : Tidy g) (hG : Glob w) (hv : Sl intE w v way) (hwn : way.length ≤ 1048576) :
  Calls Tryz.prog 17 #[gv, .int .i64 a, .int .i64 b, v] w (Ret w (.tuple #[.bool (checkApartG g a b way), .int .i64 (errG g [a, b])])) := by
 have hop := opened_any (w.alloc (.cells #[.int .i64 a, .int .i64 b] 3)) gv _ g [a, b] (hg.mono ((Ext.refl w).alloc _)) hT (hG.mono ((Ext.refl w).alloc _)) (lit_ints w [a, b] 2 rfl) (by simp)
 have hag := fun (w' : World) (hx : Ext w w') (i j : Nat) (hi : i < g.length) (hj : j < g.length) => agree_any w' gv g i j (hg.mono hx) hT hi hj
 have hls := fun (hW : WF g) (w' : World) (hx : Ext w w') (i : Nat) (hi : i < g.length) => list_any w' gv g i g.length (hg.mono hx) hi hT.len (hW.fine (getT_mem hi))
 have hn := hT.len
 obtain ⟨A, cap, rfl⟩ := hg.len
 obtain ⟨Aw, cw, rfl, hs⟩ := hv.int
 have Hs := Lib.hid hs
 clear hs
 unfold checkApartG
 by_cases h0 : errG g [a, b] = 0
 ·rw [if_pos h0]
  rw [h0] at hop ⊢
  obtain ⟨hW, hab⟩ := errG_zero h0
  obtain ⟨a0, a1⟩ := hab a (by simp)
  obtain ⟨b0, b1⟩ := hab b (by simp)
  obtain ⟨i, rfl⟩ := Int.eq_ofNat_of_zero_le a0
  obtain ⟨j, rfl⟩ := Int.eq_ofNat_of_zero_le b0
  rw [Int.toNat_natCast, Int.toNat_natCast]
  have hls' : ∀ (w' : World) (hx : Ext w w') (i : Nat) (hi : i < g.length), Calls Tryz.prog 56 #[.agg #[.slice A g.length cap], .int .i64 i] w' (RetP w' (ResSl intE w' ((refsN g i).map fun (n : Nat) => (n : Int)))) := fun w' hx i hi => by
   have h := hls hW w' hx i hi
   rwa [refsL_nat hW hi] at h
  have hi : i < g.length := by omega
  have hj : j < g.length := by omega
  have Hop := Lib.hid hop
  have Hag := Lib.hid hag
  have Hls := Lib.hid hls'
  have HW := Lib.hid hW
  have Hrl := Lib.hid (fun (i : Nat) (hi : i < g.length) => (refsN_length g i).symm ▸ (hW.fine (getT_mem hi)).refs_le)
  clear hop hag hls hls' hg hv hG hT h0 hab hW a0 a1 b0 b1
  go_enter Tryz.func17, Tryz.ntmps17
  go_wp2_with fail
  refine Hop.out.mono ?_
  rintro e w1 ⟨rfl, hx1⟩
  have Hx1 := Lib.hid ((((Ext.refl w).alloc (.cells #[.int .i64 i, .int .i64 j] 3)).trans hx1).alloc (.cells #[.slice A g.length cap] 77))
  have Hbx := Lib.hid (show Boxed (w1.alloc (.cells #[.slice A g.length cap] 77)) w1.heap.size 77 (.slice A g.length cap) from heap_alloc_self _ _)
  clear hx1
  go_wp2_with fail
  generalize w1.alloc (.cells #[.slice A g.length cap] 77) = w2 at Hx1 Hbx ⊢
  generalize w1.heap.size = bx at Hbx ⊢
  go_loopw [1, 2, 29] (fun sa sb s wr => ∃ k p q : Nat, k ≤ way.length ∧ s = .int .i64 k ∧ p < g.length ∧ q < g.length ∧ sa = .int .i64 p ∧ sb = .int .i64 q ∧ Hid (Ext w wr) ∧ Hid (Boxed wr bx 77 (.slice A g.length cap)) ∧ Hid (tellsI g i j way = tellsI g p q (way.drop k))) (fun _ _ s _ => way.length - (intOf s).toNat)
  case atStart => exact ⟨0, i, j, by omega, by simp, hi, hj, rfl, rfl, Hx1, Hbx, rfl⟩
  case round =>
   clear Hx1 Hbx hi hj
   obtain ⟨k, p, q, hk, rfl, hp, hq, rfl, rfl, Hx, Hb, Ht⟩ := hrel
   by_cases hlt : k < way.length
   ·obtain ⟨bw, ow, rfl, d0⟩ := Hs.out k hlt
    replace d0 := Hx.out.cell d0
    have cb := Hb.out.cell
    have l0 := cell_lt cb
    obtain ⟨wr', rfl⟩ : ∃ wq : World, wq = wr := ⟨_, rfl⟩
    have HS := Lib.hid (show ∀ w' : World, Ext wr' w' → w'.cell? ⟨bx, 0, none⟩ = some (.slice A g.length cap) from fun w' h => h.cell cb)
    have hd := List.drop_eq_getElem_cons hlt
    cases ha : agN g p q
    ·have Ha := Lib.hid ha
     have Hres := Lib.hid (show tellsI g i j way = false by rw [Ht.out, hd, tellsI, ha]; rfl)
     clear ha hd
     have tok1 : True := trivial
     go_wp2_with fail
     go_region_held3 (fun w' => w'.cell? ⟨bx, 0, none⟩ = some (.slice A g.length cap)) (first | exact HS.out _ (Ext.refl _).drew | exact HS.out _ hxb | exact HS.out _ hxa) (first | (go_at_call 56; have _t := tok1; refine (Hls.out _ (Hx.out.trans (Ext.refl _).drew) p hp).mono ?_; clear tok1; rintro e wa ⟨va, rfl, hva, hxa0⟩; have hxa := (Ext.refl wr').drew.trans hxa0; obtain ⟨Aa, ca, ea⟩ := hva.any.len; rw [List.length_map] at ea; subst ea) | (go_at_call 56; refine (Hls.out _ (Hx.out.trans hxa) q hq).mono ?_; rintro e wb ⟨vb, rfl, hvb, hxb0⟩; have hxb := hxa.trans hxb0; obtain ⟨Ab, cbb, eb⟩ := hvb.any.len; rw [List.length_map] at eb; subst eb))
     all_goals
      have cb := HS.out _ hxb
      have l0 := cell_lt cb
      have Hxb := Lib.hid (Hx.out.trans hxb)
      have Hb2 := Lib.hid (Boxed.ext Hb.out hxb)
      have Hva := Lib.hid (hva.any.mono hxb0)
      have Hvb := Lib.hid hvb.any
      clear hva hvb hxa hxa0 hxb hxb0
      go_wp2_with fail
      refine (Hag.out _ Hxb.out p q hp hq).mono ?_
      rintro e wd ⟨rfl, hxd⟩
      rw [Ha.out]
      replace cb := hxd.cell cb
      have Hxd := Lib.hid (Hxb.out.trans hxd)
      have Hb3 := Lib.hid (Boxed.ext Hb2.out hxd)
      replace Hva := Lib.hid (Hva.out.mono hxd)
      replace Hvb := Lib.hid (Hvb.out.mono hxd)
      clear hxd
      have hrl : (refsN g p).length ≤ 65 := Hrl.out p hp
      go_wp2_with fail
      go_ret2
      exact ⟨by rw [Hres.out]; rfl, Hxd.out⟩
    ·have Ha := Lib.hid ha
     cases hbb : hasB (refsN g p).length way[k]
     ·have Hbb := Lib.hid hbb
      have Hres := Lib.hid (show tellsI g i j way = false by rw [Ht.out, hd, tellsI, ha, hbb]; rfl)
      clear ha hd hbb
      have tok1 : True := trivial
      go_wp2_with fail
      go_region_held3 (fun w' => w'.cell? ⟨bx, 0, none⟩ = some (.slice A g.length cap)) (first | exact HS.out _ (Ext.refl _).drew | exact HS.out _ hxb | exact HS.out _ hxa) (first | (go_at_call 56; have _t := tok1; refine (Hls.out _ (Hx.out.trans (Ext.refl _).drew) p hp).mono ?_; clear tok1; rintro e wa ⟨va, rfl, hva, hxa0⟩; have hxa := (Ext.refl wr').drew.trans hxa0; obtain ⟨Aa, ca, ea⟩ := hva.any.len; rw [List.length_map] at ea; subst ea) | (go_at_call 56; refine (Hls.out _ (Hx.out.trans hxa) q hq).mono ?_; rintro e wb ⟨vb, rfl, hvb, hxb0⟩; have hxb := hxa.trans hxb0; obtain ⟨Ab, cbb, eb⟩ := hvb.any.len; rw [List.length_map] at eb; subst eb))
      all_goals
       have cb := HS.out _ hxb
       have l0 := cell_lt cb
       have Hxb := Lib.hid (Hx.out.trans hxb)
       have Hb2 := Lib.hid (Boxed.ext Hb.out hxb)
       have Hva := Lib.hid (hva.any.mono hxb0)
       have Hvb := Lib.hid hvb.any
       clear hva hvb hxa hxa0 hxb hxb0
       go_wp2_with fail
       refine (Hag.out _ Hxb.out p q hp hq).mono ?_
       rintro e wd ⟨rfl, hxd⟩
       rw [Ha.out]
       replace cb := hxd.cell cb
       have Hxd := Lib.hid (Hxb.out.trans hxd)
       have Hb3 := Lib.hid (Boxed.ext Hb2.out hxd)
       replace Hva := Lib.hid (Hva.out.mono hxd)
       replace Hvb := Lib.hid (Hvb.out.mono hxd)
       clear hxd
       have hrl : (refsN g p).length ≤ 65 := Hrl.out p hp
       go_wp2_with fail
       refine (in_any _ _ _ _).mono ?_
       rintro e we ⟨rfl, rfl⟩
       rw [show inB way[k] 0 (((refsN g p).length : Int) - 1) = false from Hbb.out]
       go_wp2_with fail
       go_ret2
       exact ⟨by rw [Hres.out]; rfl, Hxd.out⟩
     ·obtain ⟨m0, m1⟩ := hasB_iff.1 hbb
      have hrest : tellsI g i j way = tellsI g ((refsN g p).getD (way[k]).toNat 0) ((refsN g q).getD (way[k]).toNat 0) (way.drop (k + 1)) := by rw [Ht.out, hd, tellsI, ha, hbb]; rfl
      have hlen : (refsN g p).length = (refsN g q).length := by rw [refsN_length, refsN_length]; exact refsL_length ha
      obtain ⟨m, hm⟩ := Int.eq_ofNat_of_zero_le m0
      rw [hm] at d0 m1 hrest hbb
      rw [Int.toNat_natCast] at hrest
      have hrp := HW.out.abs.rng p hp _ (getD_mem (xs := refsN g p) (k := m) (by omega))
      have hrq := HW.out.abs.rng q hq _ (getD_mem (xs := refsN g q) (k := m) (by omega))
      have Hbb := Lib.hid hbb
      have Hrest := Lib.hid hrest
      have Hlen := Lib.hid hlen
      clear ha hd hbb hm hrest hlen m0
      have tok1 : True := trivial
      go_wp2_with fail
      go_region_held3 (fun w' => w'.cell? ⟨bx, 0, none⟩ = some (.slice A g.length cap)) (first | exact HS.out _ (Ext.refl _).drew | exact HS.out _ hxb | exact HS.out _ hxa) (first | (go_at_call 56; have _t := tok1; refine (Hls.out _ (Hx.out.trans (Ext.refl _).drew) p hp).mono ?_; clear tok1; rintro e wa ⟨va, rfl, hva, hxa0⟩; have hxa := (Ext.refl wr').drew.trans hxa0; obtain ⟨Aa, ca, ea⟩ := hva.any.len; rw [List.length_map] at ea; subst ea) | (go_at_call 56; refine (Hls.out _ (Hx.out.trans hxa) q hq).mono ?_; rintro e wb ⟨vb, rfl, hvb, hxb0⟩; have hxb := hxa.trans hxb0; obtain ⟨Ab, cbb, eb⟩ := hvb.any.len; rw [List.length_map] at eb; subst eb))
      all_goals
       have cb := HS.out _ hxb
       have l0 := cell_lt cb
       have Hxb := Lib.hid (Hx.out.trans hxb)
       have Hb2 := Lib.hid (Boxed.ext Hb.out hxb)
       have Hva := Lib.hid (hva.any.mono hxb0)
       have Hvb := Lib.hid hvb.any
       clear hva hvb hxa hxa0 hxb hxb0
       go_wp2_with fail
       refine (Hag.out _ Hxb.out p q hp hq).mono ?_
       rintro e wd ⟨rfl, hxd⟩
       rw [Ha.out]
       replace cb := hxd.cell cb
       have Hxd := Lib.hid (Hxb.out.trans hxd)
       have Hb3 := Lib.hid (Boxed.ext Hb2.out hxd)
       replace Hva := Lib.hid (Hva.out.mono hxd)
       replace Hvb := Lib.hid (Hvb.out.mono hxd)
       clear hxd
       have hrl : (refsN g p).length ≤ 65 := Hrl.out p hp
       go_wp2_with fail
       refine (in_any _ _ _ _).mono ?_
       rintro e we ⟨rfl, rfl⟩
       rw [show inB (m : Int) 0 (((refsN g p).length : Int) - 1) = true from Hbb.out]
       obtain ⟨Ap, cp, ep, hsp⟩ := Sl.nat Hva.out
       obtain ⟨Aq, cq, eq, hsq⟩ := Sl.nat Hvb.out
       simp only [Value.slice.injEq] at ep eq
       obtain ⟨rfl, _, rfl⟩ := ep
       obtain ⟨rfl, _, rfl⟩ := eq
       obtain ⟨b1, o1, rfl, e1⟩ := hsp m (by omega)
       obtain ⟨b2, o2, rfl, e2⟩ := hsq m (by rw [← Hlen.out]; omega)
       have m2 : (0 : Int) ≤ (m : Int) := by omega
       have m3 : (m : Int) < ((refsN g q).length : Int) := by rw [← Hlen.out]; exact m1
       clear hsp hsq
       go_wp2_with fail
       go_quiet (fail)
       go_wp2_with fail
       go_roundw
       case rel => exact ⟨k + 1, _, _, by omega, by go_num, hrp, hrq, rfl, rfl, Hxd.out.drewN _, Boxed.ext Hb3.out ((Ext.refl _).drewN _), Hrest⟩
       case measure => simp [intOf]; omega
   ·have hk' : k = way.length := by omega
    have hres : tellsI g i j way = !agN g p q := by rw [Ht.out, hk', List.drop_length, tellsI]
    have Hres := Lib.hid hres
    have cb := Hb.out.cell
    have l0 := cell_lt cb
    have Hag' := Lib.hid (Hag.out _ Hx.out p q hp hq)
    generalize agN g p q = r at Hag' Hres
    clear hres hk'
    go_wp2_with fail
    refine Hag'.out.mono ?_
    rintro e wd ⟨rfl, hxd⟩
    go_wp2_with fail
    go_ret2
    exact ⟨by rw [Hres.out]; rfl, Hx.out.trans hxd⟩
 ·rw [if_neg h0]
  have hne : (errG g [a, b] != 0) = true := by simpa using h0
  generalize errG g [a, b] = er at hop hne ⊢
  have Hop := Lib.hid hop
  clear hop hag hls hg hv hG hT h0
  go_enter Tryz.func17, Tryz.ntmps17
  go_wp2_with fail
  refine Hop.out.mono ?_
  rintro e w1 ⟨rfl, hx1⟩
  go_wp2_with fail
  go_ret2
  exact ⟨rfl, (((Ext.refl w).alloc _).trans hx1).alloc _⟩
end Go.Proofs.YtldnjnnhfeobdaaGreatDoor
/- Contract: Merge. Conditions: lengths below 2^20. -/
namespace Go.Proofs.YtldnjnnhfeobdaaGreatDoor
open Go.RowKit Go.Shelf
/-- how many stand for themselves -/
def repsN (cs : List Nat) (k : Nat) : Nat := (List.range k).countP fun i => cs.getD i 0 == i
def placeL (cs : List Nat) (n k : Nat) : List Nat := (List.range n).map fun i => if i < k ∧ cs.getD i 0 = i then repsN cs i else 0
def toF (cs pl : List Nat) (x : Int) : Int := (pl.getD (cs.getD x.toNat 0) 0 : Nat)
def mergeL (g : Graph) (cs pl : List Nat) (k : Nat) : List Ty := ((List.range k).filter fun i => cs.getD i 0 == i).map fun i => turnT (toF cs pl) (getT g i)
def mergeG (g : Graph) : Graph := if errG g [] = 0 then mergeL g (classesG g) (placeL (classesG g) g.length g.length) g.length else []
def mergeTo (g : Graph) : List Int := if errG g [] = 0 then (classesG g).map (fun c => ((placeL (classesG g) g.length g.length).getD c 0 : Int)) else []
theorem repsN_succ (cs : List Nat) (k : Nat) : repsN cs (k + 1) = repsN cs k + if cs.getD k 0 = k then 1 else 0 := by
 unfold repsN
 rw [List.range_succ, List.countP_append]
 by_cases h : cs.getD k 0 = k <;> simp [h, List.countP_cons]
theorem repsN_le (cs : List Nat) (k : Nat) : repsN cs k ≤ k := by
 have := List.countP_le_length (p := fun i => cs.getD i 0 == i) (l := List.range k)
 unfold repsN
 simpa using this
theorem placeL_length (cs : List Nat) (n k : Nat) : (placeL cs n k).length = n := by simp [placeL]
theorem placeL_zero (cs : List Nat) (n : Nat) : placeL cs n 0 = List.replicate n 0 := by
 refine List.ext_getElem (by simp [placeL]) fun i h1 h2 => ?_
 simp [placeL]
theorem placeL_yes {cs : List Nat} {n k : Nat} (hk : k < n) (h : cs.getD k 0 = k) : (placeL cs n k).set k (repsN cs k) = placeL cs n (k + 1) := by
 refine List.ext_getElem (by simp [placeL]) fun i h1 h2 => ?_
 rw [List.getElem_set]
 simp only [placeL, List.getElem_map, List.getElem_range]
 by_cases e : k = i
 ·subst e; rw [if_pos rfl, if_pos ⟨by omega, h⟩]
 ·rw [if_neg e]
  by_cases h3 : i < k ∧ cs.getD i 0 = i
  ·rw [if_pos h3, if_pos ⟨by omega, h3.2⟩]
  ·rw [if_neg h3, if_neg (fun h4 => h3 ⟨by omega, h4.2⟩)]
theorem placeL_no {cs : List Nat} {n k : Nat} (h : cs.getD k 0 ≠ k) : placeL cs n (k + 1) = placeL cs n k := by
 refine List.ext_getElem (by simp [placeL]) fun i h1 h2 => ?_
 simp only [placeL, List.getElem_map, List.getElem_range]
 by_cases h3 : i < k ∧ cs.getD i 0 = i
 ·rw [if_pos h3, if_pos ⟨by omega, h3.2⟩]
 ·rw [if_neg h3, if_neg (fun h4 => h3 ⟨by have : i ≠ k := fun e => h (e ▸ h4.2); omega, h4.2⟩)]
theorem mergeL_succ (g : Graph) (cs pl : List Nat) (k : Nat) : mergeL g cs pl (k + 1) = mergeL g cs pl k ++ if cs.getD k 0 = k then [turnT (toF cs pl) (getT g k)] else [] := by
 unfold mergeL
 rw [List.range_succ, List.filter_append, List.map_append]
 congr 1
 simp only [List.filter_cons, List.filter_nil]
 by_cases h : cs.getD k 0 = k
 ·rw [if_pos h, if_pos (beq_iff_eq.2 h)]; rfl
 ·rw [if_neg h, if_neg (fun h' => h (beq_iff_eq.1 h'))]; rfl
theorem mergeL_le (g : Graph) (cs pl : List Nat) (k : Nat) : (mergeL g cs pl k).length ≤ k := by
 unfold mergeL
 rw [List.length_map]
 have := List.length_filter_le (fun i => cs.getD i 0 == i) (List.range k)
 simpa using this
/-! ### what holds while the graph is merged -/
structure GSt (w : World) (b7 b8 Bp : Nat) (Ac : Option Addr) (cc n : Nat) (cs pl : List Nat) (wr : World) : Prop where
 ext : Ext w wr
 cbox : Boxed wr b7 24 (.slice Ac n cc)
 pbox : Boxed wr b8 24 (.slice (some ⟨Bp, 0, none⟩) n n)
 row : IntRow wr Bp pl
 cls : SlF (fun b => b < Bp) intE wr (.slice Ac n cc) (cs.map fun (n : Nat) => (n : Int))
 len : cs.length = n ∧ pl.length = n
 nb : w.heap.size ≤ Bp ∧ b7 < Bp ∧ Bp < b8
section
variable {w wr wr' : World} {b7 b8 Bp : Nat} {Ac : Option Addr} {cc n : Nat} {cs pl : List Nat}
theorem GSt.later (h : GSt w b7 b8 Bp Ac cc n cs pl wr) (hx : Ext wr wr') : GSt w b7 b8 Bp Ac cc n cs pl wr' :=
 ⟨h.ext.trans hx, Boxed.ext h.cbox hx, Boxed.ext h.pbox hx, h.row.ext hx, h.cls.ext hx, h.len, h.nb⟩
theorem GSt.set (h : GSt w b7 b8 Bp Ac cc n cs pl wr) (i v : Nat) : GSt w b7 b8 Bp Ac cc n cs (pl.set i v) (wr.setCell ⟨Bp, i, none⟩ (.int .i64 (v : Int))) :=
  ⟨h.ext.setCell h.nb.1 _, Boxed.other' h.cbox _ (by have := h.nb.2.1; omega), Boxed.other' h.pbox _ (by have := h.nb.2.2; omega), h.row.set i v,
   h.cls.mono (fun b hb _ => Below.heap_setCell _ _ _ _ (by simp; omega)) (fun _ h _ => h), ⟨h.len.1, by simp [h.len.2]⟩, h.nb⟩
theorem GSt.class (h : GSt w b7 b8 Bp Ac cc n cs pl wr) (i : Nat) (hi : i < n) : ∃ b off, Ac = some ⟨b, off, none⟩ ∧ wr.cell? ⟨b, off + i, none⟩ = some (.int .i64 (cs.getD i 0 : Nat)) := by
 obtain ⟨A, c, e, hc⟩ := Sl.nat h.cls.any
 simp only [Value.slice.injEq] at e
 obtain ⟨rfl, _, _⟩ := e
 exact hc i (by rw [h.len.1]; exact hi)
end
set_option maxRecDepth 100000 in
theorem merge1_any (w0 w : World) (b7 b8 Bp : Nat) (Ac : Option Addr) (cc n i : Nat) (cs pl : List Nat) (h : GSt w0 b7 b8 Bp Ac cc n cs pl w) (hi : i < n) (hn : n ≤ 1048576) (hc : ∀ k, k < n → cs.getD k 0 < n) :
  Calls Tryz.prog 71 #[.int .i64 i, .pointer (some ⟨b8, 0, none⟩), .pointer (some ⟨b7, 0, none⟩)] w (Ret w (.int .i64 (toF cs pl i))) := by
 have c7 := h.cbox.cell
 have c8 := h.pbox.cell
 obtain ⟨b, off, rfl, c1⟩ := h.class i hi
 have hci := hc i hi
 have c2 := h.row.cell (cs.getD i 0) (by rw [h.len.2]; exact hci)
 unfold toF
 rw [Int.toNat_natCast]
 generalize cs.getD i 0 = c at *
 have l7 := cell_lt c7
 have l8 := cell_lt c8
 have l1 := cell_lt c1
 have l2 := cell_lt c2
 have i0 : (0 : Int) ≤ (i : Int) := by omega
 have i1 : (i : Int) < (n : Int) := by omega
 have i2 : (0 : Int) ≤ (c : Int) := by omega
 have i3 : (c : Int) < (n : Int) := by omega
 clear h hc
 go_enter Tryz.func71, Tryz.ntmps71
 go_wp2_with fail
 go_quiet (fail)
 go_wp2_with fail
 go_ret
 exact ⟨rfl, (Ext.refl w).drewN _⟩
set_option maxRecDepth 100000 in
theorem merge2_any (w0 w : World) (b7 b8 Bp : Nat) (Ac : Option Addr) (cc n i : Nat) (cs pl : List Nat) (h : GSt w0 b7 b8 Bp Ac cc n cs pl w) (hi : i < n) (hn : n ≤ 1048576) :
  Calls Tryz.prog 74 #[.int .i64 i, .pointer (some ⟨b8, 0, none⟩)] w (Ret w (.int .i64 (pl.getD i 0 : Nat))) := by
 have c8 := h.pbox.cell
 have c2 := h.row.cell i (by rw [h.len.2]; exact hi)
 have l8 := cell_lt c8
 have l2 := cell_lt c2
 have i0 : (0 : Int) ≤ (i : Int) := by omega
 have i1 : (i : Int) < (n : Int) := by omega
 clear h
 go_enter Tryz.func74, Tryz.ntmps74
 go_wp2_with fail
 go_ret
 exact ⟨rfl, Ext.refl w⟩
theorem top71 {w0 w : World} {b7 b8 Bp : Nat} {Ac : Option Addr} {cc n : Nat} {cs pl : List Nat} (h : GSt w0 b7 b8 Bp Ac cc n cs pl w) (hn : n ≤ 1048576) (hc : ∀ k, k < n → cs.getD k 0 < n) :
  ToP w 71 #[.pointer (some ⟨b8, 0, none⟩), .pointer (some ⟨b7, 0, none⟩)] (toF cs pl) (fun i => 0 ≤ i ∧ i < n) :=
 ⟨enters_of Tryz.func71 (by kernel_rfl) rfl, fun i hi w' hx => by
  obtain ⟨j, rfl⟩ := Int.eq_ofNat_of_zero_le hi.1
  exact merge1_any w0 w' b7 b8 Bp Ac cc n j cs pl (h.later hx) (by omega) hn hc⟩
theorem map74 {w0 w : World} {b7 b8 Bp : Nat} {Ac : Option Addr} {cc n : Nat} {cs pl : List Nat} (h : GSt w0 b7 b8 Bp Ac cc n cs pl w) (hn : n ≤ 1048576) (xs : List Int) (hx : ∀ x ∈ xs, 0 ≤ x ∧ x < n) :
  MapP intE intE w 74 #[.pointer (some ⟨b8, 0, none⟩)] xs (fun x => (pl.getD x.toNat 0 : Nat)) :=
 ⟨enters_of Tryz.func74 (by kernel_rfl) rfl, by
  rintro x hm w' A hxt ⟨_, rfl, rfl⟩
  obtain ⟨j, rfl⟩ := Int.eq_ofNat_of_zero_le (hx x hm).1
  exact res_int (merge2_any w0 w' b7 b8 Bp Ac cc n j cs pl (h.later hxt) (by have := (hx _ hm).2; omega) hn)⟩
end Go.Proofs.YtldnjnnhfeobdaaGreatDoor
/- Contract: Merge. Conditions: lengths below 2^20. -/
namespace Go.Proofs.YtldnjnnhfeobdaaGreatDoor
open Go.RowKit Go.Shelf
def MergePost (w : World) (g : Graph) (e : Ending) (w' : World) : Prop :=
 ∃ v1 v2, e = .returned (.tuple #[v1, v2, .int .i64 (errG g [])]) ∧ Sl tyE w' v1 (mergeG g) ∧ Sl intE w' v2 (mergeTo g) ∧ Ext w w'
theorem slice23 : SliceOf Tryz.prog 23 42 10 144 := .mk' Tryz.underlying23 (by kernel_rfl)
theorem clsN_lt {g : Graph} (h : WF g) : ∀ k, k < g.length → (classesG g).getD k 0 < g.length := fun k hk => by
 have := (classesN_facts h.abs).1.le k hk
 show (classesN (agN g) (refsN g) g.length).getD k 0 < g.length
 omega
set_option maxRecDepth 100000 in
set_option maxHeartbeats 16000000 in
theorem merge_any (w : World) (gv : Value) (g : Graph) (hg : Sl tyE w gv g) (hT : Tidy g) (hG : Glob w) :
  Calls Tryz.prog 31 #[gv] w (MergePost w g) := by
 have hop := opened_any w gv (.slice none 0 0) g [] hg hT hG (Sl.nil _ _) (by simp)
 have hcl := fun (hW : WF g) (w' : World) (hx : Ext w w') => classes_any w' gv g (hg.mono hx) hT hW
 have hn := hT.len
 have hmk := fun w' => make_zeros w' g.length hn
 have hty := hT.ty
 have hg' := hg
 obtain ⟨A, cap, rfl, hs⟩ := hg.ty
 unfold MergePost mergeG mergeTo
 by_cases h0 : errG g [] = 0
 ·rw [if_pos h0, if_pos h0]
  rw [h0] at hop ⊢
  have hW := (errG_zero h0).1
  have hcl := hcl hW
  have hcs := clsN_lt hW
  have hcl2 := classesG_length g hW
  have hfr := fun i (hi : i < g.length) => (hW.fine (getT_mem hi)).refs
  generalize classesG g = cs at *
  have Hop := Lib.hid hop
  have Hcl := Lib.hid hcl
  have Hcs := Lib.hid hcs
  have Hl := Lib.hid hcl2
  have Hs := Lib.hid hs
  have Hfr := Lib.hid hfr
  have Hty := Lib.hid hty
  have Hg := Lib.hid hg'
  clear hop hcl hcs hcl2 hs hg hg' hT hG h0 hW hfr hty
  go_enter Tryz.func31, Tryz.ntmps31
  go_wp2_with fail
  refine Hop.out.mono ?_
  rintro e w1 ⟨rfl, hx1⟩
  have Hx1 := Lib.hid (hx1.alloc (.cells #[.slice A g.length cap] 77))
  have hbx := heap_cell (heap_alloc_self w1 (.cells #[.slice A g.length cap] 77)) 0 _ rfl
  clear hx1
  go_wp2_with fail
  refine (Hcl.out _ Hx1.out).mono ?_
  rintro e w2 ⟨v2, rfl, hv2, hx2⟩
  obtain ⟨Ac, cc, e2⟩ := hv2.any.len
  rw [List.length_map, Hl.out] at e2
  subst e2
  have hst : GSt w w2.heap.size (w2.heap.size + 1 + 1) (w2.heap.size + 1) Ac cc g.length cs (placeL cs g.length 0) (((w2.alloc (.cells #[.slice Ac g.length cc] 24)).alloc (zeros g.length)).alloc (.cells #[.slice (some ⟨w2.heap.size + 1, 0, none⟩) g.length g.length] 24)) := by
   have e1 := heap_alloc_self w2 (.cells #[.slice Ac g.length cc] 24)
   have e2 := heap_alloc_self (w2.alloc (.cells #[.slice Ac g.length cc] 24)) (zeros g.length)
   have e3 := heap_alloc_self ((w2.alloc (.cells #[.slice Ac g.length cc] 24)).alloc (zeros g.length)) (.cells #[.slice (some ⟨w2.heap.size + 1, 0, none⟩) g.length g.length] 24)
   simp only [World.size_alloc] at e2 e3
   have hx := Hx1.out.trans hx2
   have hsz := hx.size
   refine ⟨((hx.alloc _).alloc _).alloc _, Boxed.ext (Boxed.ext e1 ((Ext.refl _).alloc _)) ((Ext.refl _).alloc _), e3, ?_, ?_, ⟨Hl.out, placeL_length _ _ _⟩, by omega, by omega, by omega⟩
   ·rw [placeL_zero]; exact IntRow.ext e2 ((Ext.refl _).alloc _)
   ·have h := hv2.mono (G := fun b => b < w2.heap.size + 1) (fun _ _ _ => rfl) (fun b _ hlt => by omega)
    exact ((h.ext ((Ext.refl _).alloc _)).ext ((Ext.refl _).alloc _)).ext ((Ext.refl _).alloc _)
  have Hst := Lib.hid hst
  clear hst hv2 hx2 hbx Hx1
  go_wp2_with fail
  generalize ((w2.alloc (.cells #[.slice Ac g.length cc] 24)).alloc (zeros g.length)).alloc (.cells #[.slice (some ⟨w2.heap.size + 1, 0, none⟩) g.length g.length] 24) = w3 at Hst ⊢
  generalize w2.heap.size = b7 at Hst ⊢
  go_loopw [9, 31] (fun nn u wr => ∃ k : Nat, k ≤ g.length ∧ u = .int .i64 k ∧ nn = .int .i64 (repsN cs k : Nat) ∧ Hid (GSt w b7 (b7 + 1 + 1) (b7 + 1) Ac cc g.length cs (placeL cs g.length k) wr)) (fun _ u _ => g.length - (intOf u).toNat)
  case atStart => exact ⟨0, by omega, rfl, rfl, Hst⟩
  case round =>
   clear Hst
   obtain ⟨k, hk, rfl, rfl, Hst⟩ := hrel
   have c8 := Hst.out.pbox.cell
   have c7 := Hst.out.cbox.cell
   have l8 := cell_lt c8
   have l7 := cell_lt c7
   have hrk := repsN_le cs k
   by_cases hlt : k < g.length
   ·obtain ⟨b, off, rfl, c1⟩ := Hst.out.class k hlt
    have l1 := cell_lt c1
    have cr := Hst.out.row.cell k (by rw [placeL_length]; exact hlt)
    have fr := Hst.out.row.frozen k
    have lr := cell_lt cr
    have i0 : (0 : Int) ≤ (k : Int) := by omega
    have i1 : (k : Int) < (g.length : Int) := by omega
    by_cases he : cs.getD k 0 = k
    ·have hset := placeL_yes hlt he
     have hsuc := repsN_succ cs k
     rw [if_pos he] at hsuc
     rw [he] at c1
     have Hset := Lib.hid hset
     have Hsuc := Lib.hid hsuc
     clear hset hsuc he
     go_wp2_with fail
     go_roundw
     case rel => exact ⟨k + 1, by omega, by go_num, by rw [Hsuc.out]; go_num, by rw [← Hset.out]; exact Lib.hid (Hst.out.set k (repsN cs k))⟩
     case measure => simp [intOf]; omega
    ·have hno := placeL_no (n := g.length) he
     have hsuc := repsN_succ cs k
     rw [if_neg he, Nat.add_zero] at hsuc
     have hne : (((cs.getD k 0 : Nat) : Int) == (k : Int)) = false := by rw [beq_eq_false_iff_ne]; omega
     have Hno := Lib.hid hno
     have Hsuc := Lib.hid hsuc
     generalize cs.getD k 0 = c at *
     clear hno hsuc he
     go_wp2_with fail
     go_roundw
     case rel => exact ⟨k + 1, by omega, by go_num, by rw [Hsuc.out]; rfl, by rw [Hno.out]; exact Hst⟩
     case measure => simp [intOf]; omega
   ·have hkn : k = g.length := by omega
    subst hkn
    have hmt : ∀ (w' : World) (hx : Ext wr w') (b : Nat) (off : Nat) (j : Nat) (hj : j < g.length) (vp vm vo : Value) (hof : TyOf w' (getT g j) vp vm vo),
      Calls Tryz.prog 72 #[tyV (getT g j) vp vm vo, .func (.func 71) #[] #[.pointer (some ⟨b7 + 1 + 1, 0, none⟩), .pointer (some ⟨b7, 0, none⟩)]] w' (RetP w' (Res tyE w' (turnT (toF cs (placeL cs g.length g.length)) (getT g j)))) := fun w' hx b off j hj vp vm vo hof =>
     moved_any w' 71 _ _ _ (getT g j) vp vm vo hof (Hty.out _ (getT_mem hj)).1 (top71 (Hst.out.later hx) hn Hcs.out) (fun r hr => Hfr.out j hj r hr)
    have hlast : ∀ (w' : World) (hx : Ext wr w'), Calls Tryz.prog 73 #[.slice Ac g.length cc, .func (.func 74) #[] #[.pointer (some ⟨b7 + 1 + 1, 0, none⟩)]] w' (RetP w' (fun w'' u => SlF (New w') intE w'' u ((cs.map fun (n : Nat) => (n : Int)).map (fun x => ((placeL cs g.length g.length).getD x.toNat 0 : Nat))))) := fun w' hx =>
     turned_int_int 74 _ w' _ _ _ ((Hst.out.later hx).cls.any) (by rw [List.length_map, Hl.out]; exact hn) (map74 (Hst.out.later hx) hn _ (fun x hx => by
      obtain ⟨c, hc, rfl⟩ := List.mem_map.1 hx
      obtain ⟨i, hi, rfl⟩ := List.mem_iff_getElem.1 hc
      have := Hcs.out i (by rw [← Hl.out]; exact hi)
      rw [List.getD_eq_getElem?_getD, List.getElem?_eq_getElem hi] at this
      simp at this
      omega))
    have Hmt := Lib.hid hmt
    have Hlast := Lib.hid hlast
    clear hmt hlast c7 c8 l7 l8 hk hrk hlt
    go_wp2_with fail
    obtain ⟨wo, rfl⟩ : ∃ wo : World, wo = wr := ⟨_, rfl⟩
    generalize hpl : placeL cs g.length g.length = pl at *
    have Hpl := Lib.hid hpl
    clear hpl
    go_loopw [13, 49] (fun o u wr => ∃ k : Nat, k ≤ g.length ∧ u = .int .i64 k ∧ Hid (Ext wo wr) ∧ Hid (Own (New w) tyE wr wo.heap.size 42 o (mergeL g cs pl k))) (fun _ u _ => g.length - (intOf u).toNat)
    case atStart => exact ⟨0, by omega, rfl, Lib.hid (Ext.refl _), Lib.hid (Own.nil _ _ _ _ _)⟩
    case round =>
     obtain ⟨k, hk, rfl, Hx, Hown⟩ := hrel
     have Hst2 := Lib.hid (Hst.out.later Hx.out)
     have hsz0 := Hst2.out.ext.size
     have c8 := Hst2.out.pbox.cell
     have c7 := Hst2.out.cbox.cell
     have l8 := cell_lt c8
     have l7 := cell_lt c7
     have hmk := mergeL_le g cs pl k
     by_cases hlt : k < g.length
     ·obtain ⟨b, off, vp, vm, vo, rfl, hat, hof⟩ := Hs.out k hlt
      rw [← getT_lt hlt] at hat hof
      obtain ⟨A1, c1, e1⟩ := hof.parts.len
      obtain ⟨A2, c2, e2⟩ := hof.methods.len
      obtain ⟨A3, c3, e3⟩ := hof.overs.len
      subst e1 e2 e3
      have Hof := Lib.hid hof
      obtain ⟨d0, d1, d2, d3, d4, d5, d6, d7, d8, d9⟩ := hat.mono Hst2.out.ext
      have ld := cell_lt d0
      obtain ⟨bc, oc, rfl, cc1⟩ := Hst2.out.class k hlt
      have lc := cell_lt cc1
      have i0 : (0 : Int) ≤ (k : Int) := by omega
      have i1 : (k : Int) < (g.length : Int) := by omega
      clear hof hat
      by_cases he : cs.getD k 0 = k
      ·have hsuc := mergeL_succ g cs pl k
       rw [if_pos he] at hsuc
       rw [he] at cc1
       have Hsuc := Lib.hid hsuc
       have hmv := fun (w' : World) (hx : Ext wr w') => Hmt.out w' (Hx.out.trans hx) b off k hlt _ _ _ (Hof.out.mono (Hst2.out.ext.trans hx))
       unfold tyV at hmv
       have Hmv := Lib.hid hmv
       clear hsuc he hmv
       generalize getT g k = t at *
       go_wp2_with fail
       refine (Hmv.out _ ((Ext.refl wr).alloc _)).mono ?_
       rintro e w5 ⟨v5, rfl, ⟨cs5, hrel, rfl⟩, hx5⟩
       have hx6 := ((Ext.refl wr).alloc (.cells #[.int .u8 t.kind, .int .i64 t.low, .int .i64 t.high, .bool t.branded, .string t.brand, .string t.opaq, .int .i64 t.super, .slice A1 t.parts.length c1, .slice A2 t.methods.length c2, .slice A3 t.overs.length c3] 42)).trans hx5
       have hown1 := Hown.out.kept hx6
       have Hlt : ∀ k, u13.ownBlock = some k → k < wr.heap.size := fun k hk => (Hown.out.lt k hk).2
       have Hrel : Hid (tyE.rel (fun b => New w b ∧ some b ≠ u13.ownBlock) w5 (turnT (toF cs pl) t) cs5) := tyE.mono _ _ _ _ _ _ (fun _ _ _ => rfl) (fun b hb _ => ⟨by unfold New at hb ⊢; simp at hb; omega, fun e => by have h1 := Hlt b e.symm; have h2 : _ ≤ b := hb; (try simp at h2); omega⟩) hrel
       obtain ⟨_, _, _, rfl, ⟨_, _, rfl, _⟩, ⟨_, _, rfl, _⟩, ⟨_, _, rfl, _⟩⟩ := hrel
       have Hown1 := Lib.hid hown1
       have Hx6 := Lib.hid hx6
       have hsz := (Hx.out.trans hx6).size
       clear hown1 Hown hx5 hx6 Hlt d0 d1 d2 d3 d4 d5 d6 d7 d8 d9 ld cc1 lc c7 c8 l7 l8
       simp only [pack]
       go_wp2_with (at_builtin; refine own_append tyE wo.heap.size rfl _ _ 23 42 144 rfl slice23 _ _ (turnT (toF cs pl) t) _ rfl rfl Hown1.out Hrel.out ?c1 ?c2 ?c3 ?_)
       case c1 => exact hsz
       case c2 => omega
       case c3 => decide
       intro v2 w6 hown2 hg2
       rw [← Hsuc.out] at hown2
       have hx7 : Ext wo w6 := Below.grown (Hx.out.trans Hx6.out) hg2 (Hx.out.trans Hx6.out).size (fun k hk => (Hown1.out.lt k hk).1)
       have Hx7 := Lib.hid hx7
       have Hown2 := Lib.hid hown2
       clear hg2 Hown1 Hx6 Hrel hown2 hx7
       go_wp2_with fail
       go_roundw
       case rel => exact ⟨k + 1, by omega, by go_num, Hx7, Hown2⟩
       case measure => simp [intOf]; omega
      ·have hsuc := mergeL_succ g cs pl k
       rw [if_neg he, List.append_nil] at hsuc
       have hne : (((cs.getD k 0 : Nat) : Int) == (k : Int)) = false := by rw [beq_eq_false_iff_ne]; omega
       have Hsuc := Lib.hid hsuc
       generalize cs.getD k 0 = c at *
       clear hsuc he
       generalize getT g k = t at *
       go_wp2_with fail
       go_roundw
       case rel => exact ⟨k + 1, by omega, by go_num, Lib.hid (Hx.out.alloc _), by rw [Hsuc.out]; exact Lib.hid (Hown.out.kept ((Ext.refl wr).alloc _))⟩
       case measure => simp [intOf]; omega
     ·have hkn : k = g.length := by omega
      subst hkn
      have hsl := Hown.out.sl (fun b hb => by have h := Hst.out.ext.size; show w.heap.size ≤ b; omega)
      have Hsl := Lib.hid hsl
      clear hsl hlt
      go_wp2_with fail
      refine (Hlast.out _ Hx.out).mono ?_
      rintro e w5 ⟨v5, rfl, hv5, hx5⟩
      have Hv5 := Lib.hid hv5
      have Hx5 := Lib.hid (Hst2.out.ext.trans hx5)
      have Hsl5 := Lib.hid (Hsl.out.any.mono hx5)
      clear hv5 hx5 c7 c8 l7 l8
      go_wp2_with fail
      go_ret3
      refine ⟨u13, v5, rfl, by rw [Hpl.out]; exact Hsl5.out, ?_, Hx5.out⟩
      rw [Hpl.out]
      have h := Hv5.out.any
      rw [List.map_map] at h
      exact h
 ·rw [if_neg h0, if_neg h0]
  have hne : (errG g [] != 0) = true := by simpa using h0
  generalize errG g [] = er at hop hne ⊢
  have Hop := Lib.hid hop
  clear hop hcl hg hg' hs hT hG h0 hmk hty
  go_enter Tryz.func31, Tryz.ntmps31
  go_wp2_with fail
  refine Hop.out.mono ?_
  rintro e w1 ⟨rfl, hx1⟩
  go_wp2_with fail
  go_ret3
  exact ⟨_, _, rfl, Sl.nil _ _, Sl.nil _ _, hx1.alloc _⟩
end Go.Proofs.YtldnjnnhfeobdaaGreatDoor
/- Plain law: what the reference asks of a type is what the program asks; a walk up that comes back does so in as many steps as there are types. No condition. -/
namespace Go.Proofs.YtldnjnnhfeobdaaGreatDoor
open Go.RowKit
/-! ### names of parts, methods, overrides -/
def partsFrom (n : Nat) (seen : List ByteArray) : List Part → Bool
 | [] => true
 | p :: r => isNameB p.name && (hasB n p.type && (!memB p.name seen && partsFrom n (seen ++ [p.name]) r))
def methsFrom (n : Nat) (seen : List ByteArray) : List Method → Bool
 | [] => true
 | m :: r => isNameB m.name && ((strEq m.proc ByteArray.empty || isSymbolB m.proc) && (sigB n m && (!memB m.name seen && methsFrom n (seen ++ [m.name]) r)))
def oversFrom (seen : List ByteArray) : List Over → Bool
 | [] => true
 | o :: r => isNameB o.name && (isSymbolB o.proc && (!memB o.name seen && oversFrom (seen ++ [o.name]) r))
theorem distinct_step (seen : List ByteArray) (x : ByteArray) (r : List ByteArray) : distinctFrom seen (x :: r) = if memB x seen then false else isNameB x && distinctFrom (seen ++ [x]) r := rfl
theorem parts_law (n : Nat) : ∀ (l : List Part) (seen : List ByteArray), partsFrom n seen l = (!l.any (partBad n) && distinctFrom seen (l.map Part.name))
 | [], seen => rfl
 | p :: r, seen => by
  have ih := parts_law n r (seen ++ [p.name])
  unfold partsFrom
  rw [ih, List.any_cons, List.map_cons, distinct_step]
  generalize r.any (partBad n) = x
  generalize distinctFrom (seen ++ [p.name]) (r.map Part.name) = y
  unfold partBad
  cases isNameB p.name <;> cases hasB n p.type <;> cases memB p.name seen <;> cases x <;> simp
theorem meths_law (n : Nat) : ∀ (l : List Method) (seen : List ByteArray), methsFrom n seen l = (!l.any (badMethod n) && distinctFrom seen (l.map Method.name))
 | [], seen => rfl
 | m :: r, seen => by
  have ih := meths_law n r (seen ++ [m.name])
  unfold methsFrom
  rw [ih, List.any_cons, List.map_cons, distinct_step]
  generalize r.any (badMethod n) = x
  generalize distinctFrom (seen ++ [m.name]) (r.map Method.name) = y
  unfold badMethod
  cases isNameB m.name <;> cases sigB n m <;> cases memB m.name seen <;> cases x <;> cases strEq m.proc ByteArray.empty <;> cases isSymbolB m.proc <;> simp
theorem overs_law : ∀ (l : List Over) (seen : List ByteArray), oversFrom seen l = (!l.any badOver && distinctFrom seen (l.map Over.name))
 | [], seen => rfl
 | o :: r, seen => by
  have ih := overs_law r (seen ++ [o.name])
  unfold oversFrom
  rw [ih, List.any_cons, List.map_cons, distinct_step]
  generalize r.any badOver = x
  generalize distinctFrom (seen ++ [o.name]) (r.map Over.name) = y
  unfold badOver
  cases isNameB o.name <;> cases memB o.name seen <;> cases x <;> cases isSymbolB o.proc <;> simp
def partsB (n : Nat) (l : List Part) : Bool := partsFrom n [] l && decide (l.length ≤ 8)
def methsB (n : Nat) (t : Ty) : Bool := methsFrom n [] t.methods && (oversFrom [] t.overs && (decide (t.methods.length ≤ 8) && decide (t.overs.length ≤ 8)))
/-! ### a type in itself -/
def numsB (t : Ty) : Bool := decide (t.low = 0) && decide (t.high = 0)
def brandlessB (t : Ty) : Bool := !t.branded && strEq t.brand ByteArray.empty
def plainsB (t : Ty) : Bool := decide (t.methods.length = 0) && decide (t.overs.length = 0)
def brandingB (t : Ty) : Bool := isBrandB t.brand && (t.branded || strEq t.brand ByteArray.empty)
def topB (t : Ty) : Bool := decide (t.super = 0)
def bareB (t : Ty) : Bool := decide (t.parts.length = 0)
def clearB (t : Ty) : Bool := strEq t.opaq ByteArray.empty
def oneB (n : Nat) (t : Ty) : Bool := decide (t.parts.length = 1) && (strEq ((t.parts.head?.map Part.name).getD ByteArray.empty) ByteArray.empty && hasB n ((t.parts.head?.map Part.type).getD 0))
def saidB (g : Graph) (t : Ty) : Bool :=
 if t.kind = 3 then decide (-1000000000 ≤ t.low) && (decide (t.low ≤ t.high) && (decide (t.high ≤ 1000000000) && (brandlessB t && (topB t && (bareB t && (plainsB t && clearB t))))))
 else if t.kind = 9 ∨ t.kind = 11 then numsB t && (brandingB t && (topB t && (oneB g.length t && (plainsB t && clearB t))))
 else if t.kind = 10 then numsB t && (brandingB t && (topB t && (decide (1 ≤ t.parts.length) && (partsB g.length t.parts && (plainsB t && clearB t)))))
 else if t.kind = 12 then numsB t && (brandingB t && (overB g t.super kindsObject && (partsB g.length t.parts && (methsB g.length t && clearB t))))
 else if t.kind = 13 then numsB t && (brandlessB t && (overB g t.super kindsOpaque && (bareB t && (plainsB t && isSymbolB t.opaq))))
 else if 1 ≤ t.kind ∧ t.kind < 14 then numsB t && (brandlessB t && (topB t && (bareB t && (plainsB t && clearB t)))) else false
theorem isEmpty_strEq (s : ByteArray) : s.toList.isEmpty = strEq s ByteArray.empty := (strEq_empty s).symm
theorem lens_zero (a b c : Nat) : decide (a + b + c = 0) = (decide (a = 0) && (decide (b = 0) && decide (c = 0))) := by
 rw [Bool.eq_iff_iff]; simp; omega
theorem le8 (n : Nat) : decide ((n : Int) ≤ 8) = decide (n ≤ 8) := by rw [Bool.eq_iff_iff]; simp; omega
set_option maxHeartbeats 1000000 in
theorem said_right (g : Graph) (t : Ty) : saidB g t = rightB g t := by
 unfold saidB rightB
 by_cases h3 : t.kind = 3
 ·rw [if_pos h3, if_pos h3]
  unfold rangedB zeroB noRange brandlessB topB bareB plainsB clearB inB
  simp only [isEmpty_strEq, lens_zero]
  generalize decide (-1000000000 ≤ t.low) = a1
  generalize decide (t.low ≤ t.high) = a2
  generalize decide (t.high ≤ 1000000000) = a3
  generalize t.branded = a4
  generalize strEq t.brand ByteArray.empty = a5
  generalize strEq t.opaq ByteArray.empty = a6
  generalize decide (t.super = 0) = a7
  generalize decide (t.parts.length = 0) = a8
  generalize decide (t.methods.length = 0) = a9
  generalize decide (t.overs.length = 0) = b1
  rw [Bool.eq_iff_iff]
  simp
  grind
 rw [if_neg h3, if_neg h3]
 by_cases h9 : t.kind = 9 ∨ t.kind = 11
 ·rw [if_pos h9, if_pos h9]
  unfold heldB brandedB zeroB noParts noBrand brandingB topB plainsB clearB numsB oneB
  simp only [isEmpty_strEq, lens_zero]
  match hp : t.parts with
  | [] => simp
  | [p] =>
   have : strEq ByteArray.empty ByteArray.empty = true := by unfold strEq; simp
   simp only [this, List.any_cons, List.any_nil, partBad, List.length_cons, List.length_nil, List.head?_cons, Option.map_some, Option.getD_some]
   generalize isBrandB t.brand = a1
   generalize t.branded = a2
   generalize strEq t.brand ByteArray.empty = a3
   generalize strEq t.opaq ByteArray.empty = a4
   generalize strEq p.name ByteArray.empty = a5
   generalize hasB g.length p.type = a6
   generalize decide (t.low = 0) = a7
   generalize decide (t.high = 0) = a8
   generalize decide (t.super = 0) = a9
   rw [Bool.eq_iff_iff]
   simp
   grind
  | p :: q :: r => simp
 rw [if_neg h9, if_neg h9]
 have he : strEq ByteArray.empty ByteArray.empty = true := by unfold strEq; simp
 by_cases h10 : t.kind = 10
 ·rw [if_pos h10, if_pos h10]
  unfold recordedB brandedB zeroB noParts noBrand brandingB topB plainsB clearB numsB partsB differentB
  simp only [isEmpty_strEq, lens_zero, parts_law, he, List.length_map, le8]
  have h1 : decide (1 ≤ t.parts.length) = decide (0 < t.parts.length) := rfl
  rw [h1]
  generalize isBrandB t.brand = a1
  generalize t.branded = a2
  generalize strEq t.brand ByteArray.empty = a3
  generalize strEq t.opaq ByteArray.empty = a4
  generalize t.parts.any (partBad g.length) = a5
  generalize distinctFrom [] (t.parts.map Part.name) = a6
  generalize decide (0 < t.parts.length) = a7
  generalize decide (t.parts.length ≤ 8) = a8
  generalize decide (t.low = 0) = a9
  generalize decide (t.high = 0) = b1
  generalize decide (t.super = 0) = b2
  rw [Bool.eq_iff_iff]
  simp
  grind
 rw [if_neg h10, if_neg h10]
 by_cases h12 : t.kind = 12
 ·rw [if_pos h12, if_pos h12]
  unfold objectsB brandedB zeroB noObject noBrand brandingB clearB numsB partsB differentB objectB methsB differentB
  simp only [isEmpty_strEq, lens_zero, parts_law, meths_law, overs_law, he, List.length_map, le8]
  generalize isBrandB t.brand = a1
  generalize t.branded = a2
  generalize strEq t.brand ByteArray.empty = a3
  generalize strEq t.opaq ByteArray.empty = a4
  generalize t.parts.any (partBad g.length) = a5
  generalize distinctFrom [] (t.parts.map Part.name) = a6
  generalize decide (t.parts.length ≤ 8) = a7
  generalize decide (t.low = 0) = a8
  generalize decide (t.high = 0) = a9
  generalize t.methods.any (badMethod g.length) = b1
  generalize distinctFrom [] (t.methods.map Method.name) = b2
  generalize decide (t.methods.length ≤ 8) = b3
  generalize t.overs.any badOver = b4
  generalize distinctFrom [] (t.overs.map Over.name) = b5
  generalize decide (t.overs.length ≤ 8) = b6
  generalize overB g t.super kindsObject = b7
  rw [Bool.eq_iff_iff]
  simp
  grind
 rw [if_neg h12, if_neg h12]
 by_cases h13 : t.kind = 13
 ·rw [if_pos h13, if_pos h13]
  unfold opaqueB zeroB noOpaque brandlessB plainsB numsB bareB
  simp only [isEmpty_strEq, lens_zero, he]
  cases isSymbolB t.opaq <;> cases t.branded <;> cases strEq t.brand ByteArray.empty <;> cases overB g t.super kindsOpaque <;> cases decide (t.low = 0) <;> cases decide (t.high = 0) <;> cases decide (t.parts.length = 0) <;> simp
 rw [if_neg h13, if_neg h13]
 by_cases h1 : 1 ≤ t.kind ∧ t.kind < 14
 ·rw [if_pos h1, decide_eq_true h1]
  unfold zeroB brandlessB topB plainsB numsB bareB clearB
  simp only [isEmpty_strEq, lens_zero, Bool.true_and]
  cases t.branded <;> cases strEq t.brand ByteArray.empty <;> cases strEq t.opaq ByteArray.empty <;> cases decide (t.low = 0) <;> cases decide (t.high = 0) <;> cases decide (t.super = 0) <;> cases decide (t.parts.length = 0) <;> simp
 ·rw [if_neg h1, decide_eq_false h1, Bool.false_and]
/-! ### the walk up -/
def upN (g : Graph) : Nat → Nat → Nat
 | 0, a => a
 | k + 1, a => upN g k (superN g a)
theorem upN_succ (g : Graph) : ∀ k a, upN g (k + 1) a = superN g (upN g k a)
 | 0, a => rfl
 | k + 1, a => by rw [upN, upN_succ g k]; rfl
theorem upN_add (g : Graph) (j : Nat) : ∀ k a, upN g (j + k) a = upN g j (upN g k a)
 | 0, a => rfl
 | k + 1, a => by rw [← Nat.add_assoc, upN, upN_add g j k]; rfl
theorem cycN_iff (g : Graph) (i : Nat) : ∀ m a, cycN g i m a = true ↔ ∃ k, 1 ≤ k ∧ k ≤ m ∧ (∀ j, j < k → hasSuperB (getT g (upN g j a)).kind = true) ∧ upN g k a = i
  | 0, a => by
    constructor
    · intro h; simp [cycN] at h
    · rintro ⟨k, h1, h2, _⟩; omega
  | m + 1, a => by
    unfold cycN
    rw [Bool.and_eq_true, Bool.or_eq_true, decide_eq_true_iff, cycN_iff g i m]
    constructor
    · rintro ⟨h1, h2 | ⟨k, k1, k2, k3, k4⟩⟩
      · exact ⟨1, by omega, by omega, fun j hj => by obtain rfl : j = 0 := by omega
                                                     exact h1, h2⟩
      · refine ⟨k + 1, by omega, by omega, fun j hj => ?_, k4⟩
        cases j with
        | zero => exact h1
        | succ j => exact k3 j (by omega)
    · rintro ⟨k, k1, k2, k3, k4⟩
      refine ⟨k3 0 (by omega), ?_⟩
      cases k with
      | zero => omega
      | succ k =>
        by_cases hk : k = 0
        · subst hk; exact .inl k4
        · exact .inr ⟨k, by omega, by omega, fun j hj => k3 (j + 1) (by omega), k4⟩
theorem cyc_more {g : Graph} (hr : ∀ t ∈ g, rightB g t = true) {i : Nat} (hi : i < g.length) : cycN g i (g.length + 1) i = cycN g i g.length i := by
 rw [Bool.eq_iff_iff, cycN_iff, cycN_iff]
 constructor
 ·rintro h
  obtain ⟨k, _, ⟨k1, k2, k3, k4⟩, hmin⟩ := least_exists (p := fun k => 1 ≤ k ∧ k ≤ g.length + 1 ∧ (∀ j, j < k → hasSuperB (getT g (upN g j i)).kind = true) ∧ upN g k i = i) _ h.choose_spec
  refine ⟨k, k1, ?_, k3, k4⟩
  have hrng : ∀ j, j < k → upN g j i < g.length := by
   intro j hj
   induction j with
   | zero => exact hi
   | succ j ih =>
    have h0 := ih (by omega)
    have hs := k3 j (by omega)
    have hf := right_fine (hr _ (getT_mem h0))
    rw [upN_succ]
    have := hf.super hs
    unfold superN
    omega
  have hnd : ((List.range k).map fun j => upN g j i).Nodup := by
   rw [List.nodup_iff_pairwise_ne, List.pairwise_map]
   refine List.Pairwise.imp_of_mem ?_ (List.pairwise_lt_range (n := k))
   intro p q hp hq hpq he
   rw [List.mem_range] at hp hq
   have h2 : upN g (k - q + p) i = i := by
    rw [upN_add, he, ← upN_add, show k - q + q = k by omega]
    exact k4
   exact hmin (k - q + p) (by omega) ⟨by omega, by omega, fun j hj => k3 j (by omega), h2⟩
  have := nodup_length_le (l := List.range g.length) hnd (fun x hx => by
   obtain ⟨j, hj, rfl⟩ := List.mem_map.1 hx
   rw [List.mem_range] at hj ⊢
   exact hrng j hj)
  simpa using this
 ·rintro ⟨k, k1, k2, k3, k4⟩
  exact ⟨k, k1, by omega, k3, k4⟩
end Go.Proofs.YtldnjnnhfeobdaaGreatDoor
/- Contract: Digest. Conditions: lengths below 2^20. -/
namespace Go.Proofs.YtldnjnnhfeobdaaGreatDoor
open Go.RowKit Go.Shelf
def hashI (l : List Int) : Int := l.foldl (fun h b => (257 * h + b) % 9007199254740881) 5381
theorem hashI_snoc (l : List Int) (b : Int) : hashI (l ++ [b]) = (257 * hashI l + b) % 9007199254740881 := by simp [hashI]
theorem hashI_rng (l : List Int) : 0 ≤ hashI l ∧ hashI l < 9007199254740881 := by
 have key : ∀ (l : List Int) (h : Int), 0 ≤ h ∧ h < 9007199254740881 → 0 ≤ l.foldl (fun h b => (257 * h + b) % 9007199254740881) h ∧ l.foldl (fun h b => (257 * h + b) % 9007199254740881) h < 9007199254740881 := by
  intro l
  induction l with
  | nil => intro h hh; exact hh
  | cons b l ih => intro h hh; exact ih _ ⟨Int.emod_nonneg _ (by decide), Int.emod_lt_of_pos _ (by decide)⟩
 exact key l 5381 (by decide)
def digI (r : Int) : Int := if r < 10 then 48 + r else 55 + r
def digsR : Nat → Int → List Int
 | 0, _ => []
 | n + 1, h => digsR n (h / 36) ++ [digI (h % 36)]
theorem digsR_length (n : Nat) : ∀ h, (digsR n h).length = n := by
 induction n with
 | zero => intro h; rfl
 | succ n ih => intro h; simp [digsR, ih]
def digits36 : ByteArray := ⟨#[48, 49, 50, 51, 52, 53, 54, 55, 56, 57, 65, 66, 67, 68, 69, 70, 71, 72, 73, 74, 75, 76, 77, 78, 79, 80, 81, 82, 83, 84, 85, 86, 87, 88, 89, 90]⟩
theorem digit_run (w : World) : ∀ r : Nat, r < 36 → (Instr.index 9 (.string digits36) (.int .i64 (r : Int))).run Tryz.prog w = .ok (.int .u8 (digI r)) w
 | 0, _ => by kernel_rfl
 | 1, _ => by kernel_rfl
 | 2, _ => by kernel_rfl
 | 3, _ => by kernel_rfl
 | 4, _ => by kernel_rfl
 | 5, _ => by kernel_rfl
 | 6, _ => by kernel_rfl
 | 7, _ => by kernel_rfl
 | 8, _ => by kernel_rfl
 | 9, _ => by kernel_rfl
 | 10, _ => by kernel_rfl
 | 11, _ => by kernel_rfl
 | 12, _ => by kernel_rfl
 | 13, _ => by kernel_rfl
 | 14, _ => by kernel_rfl
 | 15, _ => by kernel_rfl
 | 16, _ => by kernel_rfl
 | 17, _ => by kernel_rfl
 | 18, _ => by kernel_rfl
 | 19, _ => by kernel_rfl
 | 20, _ => by kernel_rfl
 | 21, _ => by kernel_rfl
 | 22, _ => by kernel_rfl
 | 23, _ => by kernel_rfl
 | 24, _ => by kernel_rfl
 | 25, _ => by kernel_rfl
 | 26, _ => by kernel_rfl
 | 27, _ => by kernel_rfl
 | 28, _ => by kernel_rfl
 | 29, _ => by kernel_rfl
 | 30, _ => by kernel_rfl
 | 31, _ => by kernel_rfl
 | 32, _ => by kernel_rfl
 | 33, _ => by kernel_rfl
 | 34, _ => by kernel_rfl
 | 35, _ => by kernel_rfl
 | n + 36, h => by omega
def digestL (s : ByteArray) : List Int := 84 :: digsR 12 (hashI (byts s))
def digestB (s : ByteArray) : ByteArray := strOfNums (digestL s)
/-- a row of bytes that may be written -/
def ByteRow (w : World) (b : Nat) (xs : List Int) : Prop := ∃ cur : Array Value, w.heap[b]? = some (.cells cur 5 (cur.size, cur.size + 1)) ∧ xs.length ≤ cur.size ∧ ∀ (i : Nat) (x : Int), xs[i]? = some x → cur[i]? = some (Value.int .u8 x)
section
variable {w w' : World} {b : Nat} {xs : List Int}
theorem ByteRow.ext (h : ByteRow w b xs) (hx : Ext w w') : ByteRow w' b xs := by
 obtain ⟨cur, h1, h2⟩ := h
 exact ⟨cur, hx.heap h1, h2⟩
theorem ByteRow.lt (h : ByteRow w b xs) : b < w.heap.size := by
 obtain ⟨cur, h1, _⟩ := h
 exact (Array.getElem?_eq_some_iff.1 h1).1
theorem ByteRow.cell (h : ByteRow w b xs) (i : Nat) (x : Int) (hi : xs[i]? = some x) : w.cell? ⟨b, i, none⟩ = some (.int .u8 x) := by
 obtain ⟨cur, h1, h2, h3⟩ := h
 simp [World.cell?, h1, h3 i x hi]
theorem ByteRow.frozen (h : ByteRow w b xs) (i : Nat) (hi : i < xs.length) : w.frozen? ⟨b, i, none⟩ = false := by
 obtain ⟨cur, h1, h2, h3⟩ := h
 simp [World.frozen?, h1]
 omega
theorem ByteRow.set (h : ByteRow w b xs) (i : Nat) (v : Int) : ByteRow (w.setCell ⟨b, i, none⟩ (.int .u8 v)) b (xs.set i v) := by
 obtain ⟨cur, h1, h2, h3⟩ := h
 refine ⟨cur.setIfInBounds i (.int .u8 v), ?_, by simpa using h2, fun j x hj => ?_⟩
 ·simp [World.setCell, Array.getElem?_modify, h1]
 ·rw [List.getElem?_set] at hj
  rw [Array.getElem?_setIfInBounds]
  by_cases e : i = j
  ·subst e
   simp only [if_true] at hj ⊢
   by_cases hl : i < xs.length
   ·simp [hl] at hj; subst hj; simp; omega
   ·simp [hl] at hj
  ·simp only [if_neg e] at hj ⊢
   exact h3 j x hj
end
theorem ByteRow.made (w : World) (s : ByteArray) : ByteRow (Lib.bytesWorld w 5 s) w.heap.size (byts s) := by
 refine ⟨_, Lib.bytesWorld_at_new w 5 s, ?_, fun i x hi => ?_⟩
 ·rw [byts_length]; simp [Lib.bytesCells]
 ·have hlt : i < s.size := by
   have := (List.getElem?_eq_some_iff.1 hi).1
   rwa [byts_length] at this
  rw [List.getElem?_eq_getElem (by rw [byts_length]; exact hlt), byts_get s i hlt] at hi
  injection hi with hi
  subst hi
  unfold Lib.bytesCells
  rw [Array.getElem?_append_left (by simpa using hlt)]
  rw [Array.getElem?_map, Array.getElem?_eq_getElem hlt]
  rfl
theorem row_step (k : Nat) (d : Int) (tail : List Int) : (84 :: (List.replicate (k + 1) 48 ++ tail) : List Int).set (k + 1) d = 84 :: (List.replicate k 48 ++ (d :: tail)) := by
 rw [List.set_cons_succ, List.replicate_succ', List.append_assoc, List.set_append_right _ _ (by simp)]
 simp
set_option maxRecDepth 100000 in
set_option maxHeartbeats 4000000 in
theorem digest_any (s : ByteArray) (w : World) (hs : s.size ≤ 1048576) : Calls Tryz.prog 51 #[.string s] w (Ret w (.string (digestB s))) := by
 have hcv := fun (w : World) (s : ByteArray) => Lib.run_convert_string_bytes (P := Tryz.prog) w 9 100 5 s Tryz.underlying9 Tryz.underlying100 Tryz.underlying5
 have hrep : ∀ w, Calls Tryz.prog 100 #[.string ⟨#[48]⟩, .int .i64 12] w (Ret w (.string ⟨#[48, 48, 48, 48, 48, 48, 48, 48, 48, 48, 48, 48]⟩)) := fun (w : World) => Tryz.strings_Repeat ⟨#[48]⟩ 12 w (by decide) (by decide)
 have Hrep := Lib.hid hrep
 have hsl := bytesWorld_sl w s (grownCap w s.size 0 5) (grownCap_ge _ _ _ _)
 have Hx0 := Lib.hid (bytesWorld_ext w 5 s)
 obtain ⟨A0, cap0, e0, hcell⟩ := hsl.byte
 have Hcell := Lib.hid hcell
 have hbl := byts_length s
 have hbr := byts_range s
 rw [hbl] at e0
 obtain ⟨rfl, _, rfl⟩ := Value.slice.inj e0
 clear e0 hcell hrep hsl
 have Hbl := Lib.hid hbl
 have Hbr := Lib.hid hbr
 clear hbl hbr
 go_enter Tryz.func51, Tryz.ntmps51
 go_wp2_with fail
 generalize Lib.bytesWorld w 5 s = w0 at Hx0 Hcell ⊢
 go_loopw [3, 11] (fun h i wr => ∃ k : Nat, k ≤ s.size ∧ i = .int .i64 k ∧ h = .int .i64 (hashI ((byts s).take k)) ∧ Hid (Ext w0 wr)) (fun _ i _ => s.size - (intOf i).toNat)
 case atStart => exact ⟨0, by omega, by simp, by simp [hashI], Lib.hid (Ext.refl _)⟩
 case round =>
  obtain ⟨k, hk, rfl, rfl, Hxr⟩ := hrel
  by_cases hlt : k < s.size
  ·obtain ⟨b, off, eA, c0⟩ := Hcell.out k (by rw [Hbl.out]; exact hlt)
   simp only [Option.some.injEq, Addr.mk.injEq, and_true] at eA
   obtain ⟨rfl, rfl⟩ := eA
   replace c0 := Hxr.out.cell c0
   simp only [Nat.zero_add] at c0
   have hr := hashI_rng ((byts s).take k)
   have hb := Hbr.out _ (List.getElem_mem (by rw [Hbl.out]; exact hlt) : (byts s)[k]'(by rw [Hbl.out]; exact hlt) ∈ byts s)
   have hsn := hashI_snoc ((byts s).take k) ((byts s)[k]'(by rw [Hbl.out]; exact hlt))
   rw [take_one (byts s) k (by rw [Hbl.out]; exact hlt)] at hsn
   have Hsn := Lib.hid hsn
   generalize (byts s)[k]'(by rw [Hbl.out]; exact hlt) = bb at c0 hb Hsn
   generalize hashI ((byts s).take k) = h at hr Hsn ⊢
   have hwb : IntKind.i64.wrap bb = bb := IntWalk.i64_in _ (by omega)
   have hw1 : IntKind.i64.wrap (257 * h) = 257 * h := IntWalk.i64_in _ (by omega)
   have hw2 : IntKind.i64.wrap (257 * h + bb) = 257 * h + bb := IntWalk.i64_in _ (by omega)
   clear hsn
   go_wp2_with fail
   go_roundw
   case rel =>
    refine ⟨k + 1, by omega, by go_num, ?_, Hxr⟩
    rw [Hsn.out]
   case measure => simp [intOf]; omega
  ·obtain rfl : k = s.size := by omega
   have hH := hashI_rng (byts s)
   have Hx1 := Lib.hid (Hx0.out.trans Hxr.out)
   rw [List.take_of_length_le (by rw [Hbl.out]; exact Nat.le_refl _)]
   have hdg : digestB s = strOfNums (84 :: digsR 12 (hashI (byts s))) := rfl
   have Hdg := Lib.hid hdg
   clear hdg
   generalize hashI (byts s) = h at hH Hdg ⊢
   clear Hcell Hbr Hbl Hx0 Hxr hlt
   go_wp2_with fail
   refine (Hrep.out _).mono ?_
   rintro e w1 ⟨rfl, hx1⟩
   have Hx2 := Lib.hid (Hx1.out.trans hx1)
   clear hx1 Hx1
   have Hrow := Lib.hid (ByteRow.made w1 ((⟨#[84]⟩ : ByteArray) ++ (⟨#[48, 48, 48, 48, 48, 48, 48, 48, 48, 48, 48, 48]⟩ : ByteArray)))
   have Hx3 := Lib.hid (Hx2.out.trans (bytesWorld_ext w1 5 ((⟨#[84]⟩ : ByteArray) ++ (⟨#[48, 48, 48, 48, 48, 48, 48, 48, 48, 48, 48, 48]⟩ : ByteArray))))
   have hb1 : w.heap.size ≤ w1.heap.size := Hx2.out.size
   go_wp2_with fail
   rw [show byts ((⟨#[84]⟩ : ByteArray) ++ (⟨#[48, 48, 48, 48, 48, 48, 48, 48, 48, 48, 48, 48]⟩ : ByteArray)) = 84 :: (List.replicate 12 48 ++ []) from rfl] at Hrow
   generalize Lib.bytesWorld w1 5 ((⟨#[84]⟩ : ByteArray) ++ (⟨#[48, 48, 48, 48, 48, 48, 48, 48, 48, 48, 48, 48]⟩ : ByteArray)) = w3 at Hrow Hx3 ⊢
   generalize grownCap w1 13 0 5 = cap1
   generalize w1.heap.size = b at hb1 Hrow ⊢
   clear Hx2
   go_loopw [3, 7] (fun hv i wr => ∃ (k : Nat) (h' : Int) (tail : List Int), k ≤ 12 ∧ i = .int .i64 k ∧ hv = .int .i64 h' ∧ 0 ≤ h' ∧ h' < 9007199254740881 ∧ tail.length + k = 12 ∧ Hid (digsR 12 h = digsR k h' ++ tail) ∧ Hid (Ext w wr) ∧ Hid (ByteRow wr b (84 :: (List.replicate k 48 ++ tail)))) (fun _ i _ => (intOf i).toNat)
   case atStart => exact ⟨12, h, [], by omega, by simp, rfl, hH.1, hH.2, by simp, Lib.hid (by simp), Hx3, Hrow⟩
   case round =>
    clear Hrow Hx3
    obtain ⟨k, h', tail, hk, rfl, rfl, h0, h1, htl, Hdig, Hx, Hrow⟩ := hrel
    by_cases hk0 : k = 0
    ·subst hk0
     have hrow : ByteRow wr b (84 :: digsR 12 h) := by have e := Hrow.out; rw [Hdig.out]; exact e
     have hcs : ∀ i, i < 13 → wr.cell? ⟨b, 0 + i, none⟩ = some (.int .u8 ((84 :: digsR 12 h).getD i 0)) := fun i hi => by
      rw [Nat.zero_add]
      refine hrow.cell i _ ?_
      rw [List.getD_eq_getElem?_getD, List.getElem?_eq_getElem (by rw [List.length_cons, digsR_length]; exact hi)]
      rfl
     have hcv2 := fun W (hW : wr = W) => run_convert_bytes_arg (P := Tryz.prog) (w := W) 100 5 Tryz.underlying100 Tryz.underlying5 b 0 13 cap1 (84 :: digsR 12 h) (by rw [List.length_cons, digsR_length]) (by subst hW; exact hcs) 9 Tryz.underlying9
     have hcv3 := hcv2 _ rfl
     clear hcv2 hcs hrow htl
     go_wp2_with fail
     go_ret
     exact ⟨by rw [Hdg.out]; rfl, Hx.out⟩
    ·obtain ⟨m, rfl⟩ : ∃ m, k = m + 1 := ⟨k - 1, by omega⟩
     have hm0 : (0 : Int) ≤ h' % 36 := Int.emod_nonneg _ (by decide)
     have hm1 : h' % 36 < 36 := Int.emod_lt_of_pos _ (by decide)
     have hd0 : (0 : Int) ≤ h' / 36 := Int.ediv_nonneg h0 (by decide)
     have hd1 : h' / 36 < 9007199254740881 := by omega
     have hrow2 := Hrow.out.set (m + 1) (digI (h' % 36))
     rw [row_step] at hrow2
     have Hrow2 := Lib.hid hrow2
     have hdig2 : digsR 12 h = digsR m (h' / 36) ++ (digI (h' % 36) :: tail) := by rw [Hdig.out, digsR]; simp
     have Hdig2 := Lib.hid hdig2
     have c0 : wr.cell? ⟨b, m + 1, none⟩ = some (.int .u8 48) := Hrow.out.cell (m + 1) 48 (by
      rw [List.getElem?_cons_succ, List.getElem?_append_left (by simp), List.getElem?_replicate]; simp)
     have f0 := Hrow.out.frozen (m + 1) (by simp; try omega)
     have l0 := cell_lt c0
     obtain ⟨r, hr⟩ := Int.eq_ofNat_of_zero_le hm0
     have hdr : ∀ w', (Instr.index 9 (.string digits36) (.int .i64 (h' % 36))).run Tryz.prog w' = .ok (.int .u8 (digI (h' % 36))) w' := fun w' => by
      rw [hr]; exact digit_run w' r (by omega)
     unfold digits36 at hdr
     clear hrow2 hdig2 hr
     go_wp2_with fail
     go_roundw
     case rel => exact ⟨m, h' / 36, digI (h' % 36) :: tail, by omega, by go_num, rfl, hd0, hd1, (by simp; try omega), Hdig2, Hx.out.setCell hb1 _, Hrow2⟩
     case measure => (simp [intOf])
end Go.Proofs.YtldnjnnhfeobdaaGreatDoor
/- Contracts: a strings.Builder at the head of a writer: WriteString, String. Conditions: the text's length below 2^47. -/
namespace Go.Proofs.YtldnjnnhfeobdaaGreatDoor
open Go.RowKit Go.Shelf
/-- a writer (a builder, and the function value fv) in block b, that holds the bytes l; what is its own lies from B on, and none of the blocks K (which are no rows of bytes) is its own -/
structure Wr (w : World) (B b : Nat) (fv : Value) (l : List UInt8) (K : List Nat) : Prop where
 base : B ≤ b
 at_ : ∃ p v, (p = .pointer none ∨ p = .pointer (some ⟨b, 0, none⟩)) ∧ w.heap[b]? = some (.cells #[p, v, fv] 147 (0, 0)) ∧ w.ownsRow B 5 1 v l.length (Lib.byteCells l) ∧ v.ownBlock ≠ some b
 ks : ∀ k ∈ K, k ≠ b ∧ k < w.heap.size ∧ ∀ c f, w.heap[k]? ≠ some (.cells c 5 f)
section
variable {w w' : World} {B b : Nat} {fv : Value} {l : List UInt8} {K : List Nat}
theorem Wr.lt (h : Wr w B b fv l K) : b < w.heap.size := by
 obtain ⟨p, v, _, hb, _⟩ := h.at_
 exact (Array.getElem?_eq_some_iff.1 hb).1
theorem Wr.ext (h : Wr w B b fv l K) (hx : Ext w w') : Wr w' B b fv l K := by
 obtain ⟨p, v, hp, hb, ho, hne⟩ := h.at_
 refine ⟨h.base, ⟨p, v, hp, hx.heap hb, ?_, hne⟩, fun k hm => ⟨(h.ks k hm).1, Nat.lt_of_lt_of_le (h.ks k hm).2.1 hx.size, fun c f e => ?_⟩⟩
 ·exact ho.kept (row := none) ⟨Below.os hx, Below.tape hx, Below.output hx, Below.size hx, fun k hk _ => Below.block hx k hk⟩ (by cases v.ownBlock <;> simp)
 ·rw [Below.block hx k (h.ks k hm).2.1] at e
  exact (h.ks k hm).2.2 c f e
theorem Wr.add (h : Wr w B b fv l K) (o : Obj) (ho : ∀ c f, o ≠ .cells c 5 f) : Wr (w.alloc o) B b fv l (w.heap.size :: K) := by
 have h1 := h.ext ((Ext.refl w).alloc o)
 have hlt := h.lt
 refine ⟨h.base, h1.at_, fun k hm => ?_⟩
 rcases List.mem_cons.1 hm with rfl | hm
 ·refine ⟨by omega, by simp, fun c f e => ?_⟩
  rw [heap_alloc_self] at e
  injection e with e
  exact ho c f e
 ·exact h1.ks k hm
theorem Wr.sub {K' : List Nat} (h : Wr w B b fv l K) (hs : ∀ k ∈ K', k ∈ K) : Wr w B b fv l K' := ⟨h.base, h.at_, fun k hk => h.ks k (hs k hk)⟩
theorem Wr.not_own (h : Wr w B b fv l K) {v : Value} {n : Nat} {xs : List Value} (ho : w.ownsRow B 5 1 v n xs) {k : Nat} (hk : k ∈ K) : some k ≠ v.ownBlock := by
 rcases ho.2 with ⟨rfl, _⟩ | ⟨g, cap, cur, rfl, _, hgb, _⟩
 ·simp [Value.ownBlock]
 ·intro e
  obtain rfl : k = g := by simpa [Value.ownBlock] using e
  exact (h.ks k hk).2.2 _ _ hgb
/-- what a writing leaves -/
def WrPost (w : World) (B b : Nat) (fv : Value) (l : List UInt8) (K : List Nat) (w' : World) : Prop :=
 Wr w' B b fv l K ∧ Below B w w' ∧ ∀ k ∈ K, w'.heap[k]? = w.heap[k]?
end
theorem infoB : (Tryz.prog.info? 5).map (fun i => (i.zero, i.size, i.bytes)) = some (some (.int .u8 0), 1, 1) := by kernel_rfl
set_option maxRecDepth 100000 in
set_option maxHeartbeats 1000000 in
theorem copyCheck_used (b : Nat) (w : World) (h0 : w.cell? ⟨b, 0, none⟩ = some (.pointer (some ⟨b, 0, none⟩))) :
  Calls Tryz.prog 185 #[.pointer (some ⟨b, 0, none⟩)] w fun e w' => e = .returned (.tuple #[]) ∧ w' = w := by
 obtain ⟨j, hj, _⟩ := Option.map_eq_some_iff.1 (show (Tryz.prog.info? 145).map (·.size) = some 2 by kernel_rfl)
 go_enter Tryz.func185, Tryz.ntmps185
 go_wp2
 rw [Lib.run_neq_ptr_same w _ Tryz.underlying143 hj]
 go_wp2
 go_end0
 exact ⟨rfl, rfl⟩
set_option maxRecDepth 100000 in
set_option maxHeartbeats 1000000 in
theorem copyCheck_fresh (b : Nat) (w : World) (h0 : w.cell? ⟨b, 0, none⟩ = some (.pointer none)) (hsh : w.shape? b = some (147, 3)) (hfz : w.frozen? ⟨b, 0, none⟩ = false) :
  Calls Tryz.prog 185 #[.pointer (some ⟨b, 0, none⟩)] w fun e w' => e = .returned (.tuple #[]) ∧ w' = w.setCell ⟨b, 0, none⟩ (.pointer (some ⟨b, 0, none⟩)) := by
 obtain ⟨j, hj, hjs⟩ := Option.map_eq_some_iff.1 (show (Tryz.prog.info? 145).map (·.size) = some 2 by kernel_rfl)
 have hl := cell_lt h0
 go_enter Tryz.func185, Tryz.ntmps185
 go_wp2
 rw [Lib.run_to_unsafe w ⟨b, 0, none⟩ Tryz.underlying143 Tryz.underlying231 hj (by rw [hjs]; decide) hsh (Nat.zero_lt_succ 2)]
 simp only [Result.andThen]
 rw [Oper.upon_value]
 go_wp2
 rw [run_callFunc_extern Tryz.func211 (by kernel_rfl) (by kernel_rfl) (by kernel_rfl) (e := Extern.AbiNoEscape.same) (by kernel_rfl)]
 rw [Lib.run_noEscape]
 simp only [Result.andThen]
 rw [Oper.upon_value]
 go_wp2
 rw [Lib.run_from_unsafe w ⟨b, 0, none⟩ Tryz.underlying231 Tryz.underlying143 hj hsh (by kernel_rfl)]
 simp only [Result.andThen]
 rw [Oper.upon_value]
 go_wp2
 go_end0
 exact ⟨rfl, rfl⟩
theorem byteCells_str (l : List UInt8) (s : ByteArray) : Lib.byteCells l ++ Lib.strCells s = Lib.byteCells (l ++ s.data.toList) := by
 simp [Lib.byteCells, Lib.strCells]
set_option maxRecDepth 100000 in
set_option maxHeartbeats 2000000 in
theorem writeString_any (w : World) (B b : Nat) (fv : Value) (l : List UInt8) (K : List Nat) (s : ByteArray) (h : Wr w B b fv l K) (hB : B ≤ w.heap.size) (hlen : l.length + s.size ≤ 140737488355328) :
  Calls Tryz.prog 148 #[.pointer (some ⟨b, 0, none⟩), .string s] w fun e w' => e = .returned (.tuple #[.int .i64 s.size, .nilIface]) ∧ WrPost w B b fv (l ++ s.data.toList) K w' := by
 obtain ⟨i0, hi, hz0, hz1, hz2⟩ := info_parts infoB
 have hck : Calls Tryz.prog 185 #[.pointer (some ⟨b, 0, none⟩)] w fun e w' => e = .returned (.tuple #[]) ∧ Wr w' B b fv l K ∧ (∃ v, w'.heap[b]? = some (.cells #[.pointer (some ⟨b, 0, none⟩), v, fv] 147 (0, 0)) ∧ w'.ownsRow B 5 1 v l.length (Lib.byteCells l) ∧ v.ownBlock ≠ some b) ∧ Below B w w' ∧ w'.heap.size = w.heap.size ∧ ∀ k, k ≠ b → w'.heap[k]? = w.heap[k]? := by
  obtain ⟨p, v, hp, hb, ho, hne⟩ := h.at_
  rcases hp with rfl | rfl
  ·refine (copyCheck_fresh b w (heap_cell hb 0 _ rfl) (by simp [World.shape?, hb]) (heap_frozen hb 0)).mono ?_
   rintro e w' ⟨rfl, rfl⟩
   have hb2 := heap_set hb 0 (.pointer (some ⟨b, 0, none⟩))
   have hoth : ∀ k, k ≠ b → (w.setCell ⟨b, 0, none⟩ (.pointer (some ⟨b, 0, none⟩))).heap[k]? = w.heap[k]? := fun k hk => Below.heap_setCell _ _ _ _ hk
   have ho2 : (w.setCell ⟨b, 0, none⟩ (.pointer (some ⟨b, 0, none⟩))).ownsRow B 5 1 v l.length (Lib.byteCells l) := ho.kept (grownBy_setCell' w b _) (.inr hne)
   refine ⟨rfl, ⟨h.base, ⟨_, v, .inr rfl, hb2, ho2, hne⟩, fun k hk => ⟨(h.ks k hk).1, by simp; exact (h.ks k hk).2.1, fun c f e => ?_⟩⟩, ⟨v, hb2, ho2, hne⟩, (Below.refl B w).setCell (p := ⟨b, 0, none⟩) h.base _, by simp, hoth⟩
   rw [hoth k (h.ks k hk).1] at e
   exact (h.ks k hk).2.2 c f e
  ·refine (copyCheck_used b w (heap_cell hb 0 _ rfl)).mono ?_
   rintro e w' ⟨rfl, rfl⟩
   exact ⟨rfl, h, ⟨v, hb, ho, hne⟩, Below.refl _ _, rfl, fun _ _ => rfl⟩
 have Hck := Lib.hid hck
 have hks := Lib.hid h.ks
 have hbase := h.base
 clear hck h
 go_enter Tryz.func148, Tryz.ntmps148
 go_wp2_with fail
 refine Hck.out.mono ?_
 rintro e w1 ⟨rfl, h1, ⟨v, hb, ho, hne⟩, hb1, hsz, hoth⟩
 have H1 := Lib.hid h1
 have Hoth := Lib.hid hoth
 have Hb1 := Lib.hid hb1
 have Hb := Lib.hid hb
 have Ho := Lib.hid ho
 have Hne := Lib.hid hne
 have c0 := heap_cell hb 0 _ rfl
 have c1 := heap_cell hb 1 _ rfl
 have lb := h1.lt
 clear h1 hoth hb1 hb ho hne
 go_wp2_with (at_builtin; refine Lib.wpList_append_own_string _ rfl _ _ 100 9 rfl B 5 i0 Tryz.underlying100 Tryz.underlying9 hi hz0 hz1 hz2 _ _ _ rfl Ho.out s rfl (by simp only [maxLen]; omega) hlen (by omega) ?_)
 intro v' w2 hown' hgrow _
 have hb2 : w2.heap[b]? = some (.cells #[.pointer (some ⟨b, 0, none⟩), v, fv] 147 (0, 0)) := by
  rw [hgrow.block b lb (fun e => Hne.out e.symm)]
  exact Hb.out
 have d0 := heap_cell hb2 0 _ rfl
 have d1 := heap_cell hb2 1 _ rfl
 have f1 := heap_frozen hb2 1
 have l2 : b < w2.heap.size := (Array.getElem?_eq_some_iff.1 hb2).1
 have hKeep := Lib.hid (fun k (hk : k ∈ K) => hgrow.block k ((H1.out.ks k hk).2.1) (H1.out.not_own Ho.out hk))
 have Hown := Lib.hid hown'
 have Hgrow := Lib.hid hgrow
 have Hb2 := Lib.hid hb2
 obtain ⟨ao, n', cap, rfl⟩ : ∃ ao n' cap, v' = .slice ao n' cap := by
  rcases hown'.2 with ⟨hv, _⟩ | ⟨g, cap, cur, hv, _⟩
  ·exact ⟨_, _, _, hv⟩
  ·exact ⟨_, _, _, hv⟩
 clear hown' hgrow hb2 c0 c1
 go_wp2_with fail
 go_ret2
 have hb3 := heap_set Hb2.out 1 (.slice ao n' cap)
 have hne2 : (Value.slice ao n' cap).ownBlock ≠ some b := by
  rcases Hown.out.2 with ⟨hv, _⟩ | ⟨g, cap', cur, hv, _, hgb, _⟩
  ·rw [hv]; simp [Value.ownBlock]
  ·rw [hv]
   intro e
   obtain rfl : g = b := by simpa [Value.ownBlock] using e
   rw [Hb2.out] at hgb
   simp at hgb
 have hkeep3 : ∀ k ∈ K, (w2.setCell ⟨b, 1, none⟩ (.slice ao n' cap)).heap[k]? = w.heap[k]? := fun k hk => by
  rw [Below.heap_setCell _ _ _ _ (H1.out.ks k hk).1, hKeep.out k hk, Hoth.out k (H1.out.ks k hk).1]
 refine ⟨rfl, ⟨hbase, ⟨_, _, .inr rfl, hb3, ?_, hne2⟩, fun k hk => ⟨(H1.out.ks k hk).1, ?_, fun c f e => ?_⟩⟩, ?_, hkeep3⟩
 ·have := Hown.out.kept (grownBy_setCell' w2 b (.slice ao n' cap)) (.inr hne2)
  rw [List.length_append, ← byteCells_str]
  have e : s.data.toList.length = s.size := by simp
  rw [e]
  exact Hown.out.kept (row := some b) ⟨rfl, rfl, rfl, by simp, fun k _ hk => Below.heap_setCell _ _ _ k (fun e => hk (by rw [e]))⟩ (.inr hne2)
 ·have := (H1.out.ks k hk).2.1
  have := Hgrow.out.size
  simp; omega
 ·rw [hkeep3 k hk] at e
  exact (hks.out k hk).2.2 c f e
 ·exact ((Hb1.out).grown Hgrow.out (by omega) (fun k hk => (Ho.out.lt k hk).1)).setCell (p := ⟨b, 1, none⟩) hbase _
set_option maxRecDepth 100000 in
set_option maxHeartbeats 2000000 in
theorem string_any (w : World) (B b : Nat) (fv : Value) (l : List UInt8) (K : List Nat) (h : Wr w B b fv l K) (h0 : l ≠ []) (hfv : fv.oneCell' = true) :
  Calls Tryz.prog 115 #[.pointer (some ⟨b, 0, none⟩)] w fun e w' => e = .returned (.string ⟨l.toArray⟩) ∧ Below B w w' := by
 obtain ⟨p, v, hp, hbk, hown, hne⟩ := h.at_
 have hl0 : l.length ≠ 0 := by simpa using h0
 obtain ⟨g, cap, cur, rfl, hbg, hg, hnc, hcm, hcs, htake⟩ : ∃ g cap cur, v = .slice (some ⟨g, 0, none⟩) l.length cap ∧ B ≤ g ∧ w.heap[g]? = some (.cells cur 5 (0, 0)) ∧ l.length ≤ cap ∧ cap ≤ maxLen ∧ cur.size = cap * 1 ∧ cur.toList.take (l.length * 1) = Lib.byteCells l := by
  rcases hown.2 with ⟨_, hz⟩ | ⟨g, cap, cur, hv, r⟩
  ·exact absurd hz hl0
  ·exact ⟨g, cap, cur, hv, r⟩
 have c1 : w.drew.cell? ⟨b, 1, none⟩ = some (.slice (some ⟨g, 0, none⟩) l.length cap) := heap_cell (w := w.drew) (show w.drew.heap[b]? = _ from hbk) 1 _ rfl
 have hSD : (Builtin.unsafeSliceData_ #[100] 192 #[.slice (some ⟨g, 0, none⟩) l.length cap]).run Tryz.prog w.drew = .ok (.pointer (some ⟨g, 0, none⟩)) w.drew :=
  Lib.run_unsafeSliceData_row _ _ _ _ _ _ (by omega)
 have hUS : (Builtin.unsafeString_ #[192, 3] 9 #[.pointer (some ⟨g, 0, none⟩), .int .i64 l.length]).run Tryz.prog w.drew = .ok (.string ⟨l.toArray⟩) (w.drew.freeze ⟨g, 0, none⟩ l.length) := by
  refine Lib.run_unsafeString_row w.drew 192 3 9 5 Tryz.underlying192 (by kernel_rfl) g cur.size (by have hg' : w.drew.heap[g]? = some (.cells cur 5 (0, 0)) := hg; simp [World.shape?, hg']) l h0 (by omega) (by unfold maxLen at hcm; omega) ?_
  intro j x hx
  have := hown.cells (g := g) rfl j (.int .u8 x.toNat) (by simp [Lib.byteCells, hx])
  exact this
 clear hp hbk hown hne htake
 go_enter Tryz.func115, Tryz.ntmps115
 go_wp2
 go_region
 all_goals (go_wp2; go_ret; exact ⟨rfl, Lib.below_freeze (Below.drew (Below.refl B w)) (p := ⟨g, 0, none⟩) hbg _⟩)
end Go.Proofs.YtldnjnnhfeobdaaGreatDoor
/- Contract: the text of a method. Conditions: lengths below 2^47. -/
namespace Go.Proofs.YtldnjnnhfeobdaaGreatDoor
open Go.RowKit Go.Shelf
theorem ba_app (a b : ByteArray) : (a ++ b).data.toList = a.data.toList ++ b.data.toList := by simp
theorem ba_app_size (a b : ByteArray) : (a ++ b).size = a.size + b.size := by simp
theorem ba_mk (l : List UInt8) : (⟨l.toArray⟩ : ByteArray).data.toList = l := rfl
/-- how numbers of types are written: a function value that lays nothing but new memory -/
structure NumP (w : World) (B : Nat) (g : Nat) (cb : Array Value) (num : Int → ByteArray) (ok : Int → Prop) : Prop where
 ent : Enters Tryz.prog g
 run : ∀ i, ok i → ∀ w', Below B w w' → Calls Tryz.prog g (#[.int .i64 i] ++ cb) w' (Ret w' (.string (num i)))
theorem NumP.later {w w1 : World} {B g : Nat} {cb : Array Value} {num : Int → ByteArray} {ok : Int → Prop} (h : NumP w B g cb num ok) (hb : Below B w w1) : NumP w1 B g cb num ok :=
 ⟨h.ent, fun i hi w' hw => h.run i hi w' (hb.trans hw)⟩
def joinTx (l : List ByteArray) : List UInt8 := Lib.join (l.map (·.data.toList)) [44]
def resultTx (num : Int → ByteArray) (r : Int) : List UInt8 := if r < 0 then [45] else (num r).data.toList
def raisesTx (l : List ByteArray) : List UInt8 := if l.length = 0 then [] else 33 :: joinTx l
def procTx (p : ByteArray) : List UInt8 := if p.toList.isEmpty then [] else 61 :: p.data.toList
def methodTx (num : Int → ByteArray) (m : Method) : List UInt8 :=
 [32] ++ m.name.data.toList ++ [40] ++ joinTx (m.args.map num) ++ [41] ++ resultTx num m.result ++ raisesTx m.raises ++ procTx m.proc
/-- what the calls behind a writing keep -/
structure MS (w : World) (B b : Nat) (fv : Value) (K : List Nat) (bm : Nat) (o : Obj) (l : List UInt8) (w' : World) : Prop where
 wr : Wr w' B b fv l (bm :: K)
 box : w'.heap[bm]? = some o
 below : Below B w w'
 keep : ∀ k ∈ K, w'.heap[k]? = w.heap[k]?
theorem MS.later {w : World} {B b : Nat} {fv : Value} {K : List Nat} {bm : Nat} {o : Obj} {l : List UInt8} {w' w'' : World} (h : MS w B b fv K bm o l w') (hx : Ext w' w'') : MS w B b fv K bm o l w'' :=
 ⟨h.wr.ext hx, hx.heap h.box, Below.trans h.below (Below.mono hx (Nat.le_trans h.wr.base (Nat.le_of_lt h.wr.lt))), fun k hk => by
  rw [Below.block hx k ((h.wr.ks k (by simp [hk])).2.1)]; exact h.keep k hk⟩
theorem MS.write {w : World} {B b : Nat} {fv : Value} {K : List Nat} {bm : Nat} {o : Obj} {l l' : List UInt8} {w' w'' : World} (h : MS w B b fv K bm o l w') (hw : WrPost w' B b fv l' (bm :: K) w'') : MS w B b fv K bm o l' w'' :=
 ⟨hw.1, by rw [hw.2.2 bm (by simp)]; exact h.box, h.below.trans hw.2.1, fun k hk => by rw [hw.2.2 k (by simp [hk])]; exact h.keep k hk⟩
theorem MS.le {w : World} {B b : Nat} {fv : Value} {K : List Nat} {bm : Nat} {o : Obj} {l : List UInt8} {w' : World} (h : MS w B b fv K bm o l w') : B ≤ w'.heap.size := Nat.le_trans h.wr.base (Nat.le_of_lt h.wr.lt)
theorem MS.num {w : World} {B b : Nat} {fv : Value} {K : List Nat} {bm : Nat} {o : Obj} {l : List UInt8} {w' : World} (h : MS w B b fv K bm o l w') : w'.cell? ⟨b, 2, none⟩ = some fv := by
 obtain ⟨p, v, _, hb, _⟩ := h.wr.at_
 exact heap_cell hb 2 _ rfl
theorem join_any (w : World) (v : Value) (xs : List ByteArray) (hv : Sl strE w v xs) (hl : (joinTx xs).length ≤ 140737488355328) (hn : xs.length ≤ 1048576) :
  Calls Tryz.prog 188 #[v, .string ⟨#[44]⟩] w (Ret w (.string ⟨(joinTx xs).toArray⟩)) := by
 obtain ⟨A, cap, rfl, h⟩ := id hv
 by_cases h0 : xs = []
 ·subst h0
  refine (Tryz.strings_Join_none A cap ⟨#[44]⟩ w).mono ?_
  rintro e w' ⟨rfl, rfl⟩
  exact ⟨rfl, Ext.refl _⟩
 ·obtain ⟨x, hx⟩ : ∃ x, xs[0]? = some x := ⟨_, List.getElem?_eq_getElem (List.length_pos_iff.2 h0)⟩
  obtain ⟨b, off, cs, rfl, ⟨_, hcap⟩, rfl, hc⟩ := h 0 x hx
  have hb := cell_lt (hc 0 _ rfl)
  refine (Tryz.strings_Join b off cap xs ⟨#[44]⟩ w (fun j x hj => ?_) hb (by omega) hcap hl).mono fun e w' h => h
  obtain ⟨b', off', cs', e1, _, rfl, hc'⟩ := h j x hj
  simp only [Option.some.injEq, Addr.mk.injEq, and_true] at e1
  obtain ⟨rfl, rfl⟩ := e1
  simpa [strE] using hc' 0 _ rfl
theorem numMap {w : World} {B g : Nat} {cb : Array Value} {num : Int → ByteArray} {ok : Int → Prop} (h : NumP w B g cb num ok) {w1 : World} (hb : Below B w w1) (hB : B ≤ w1.heap.size) (xs : List Int) (hx : ∀ x ∈ xs, ok x) : MapP intE strE w1 g cb xs num :=
 ⟨h.ent, by
  rintro x hm w' A hxt ⟨_, rfl, rfl⟩
  exact res_str (h.run x (hx x hm) w' (hb.trans (Below.mono hxt hB)))⟩
set_option maxRecDepth 100000 in
set_option maxHeartbeats 8000000 in
theorem method_any (w0 w : World) (B b g : Nat) (cb : Array Value) (num : Int → ByteArray) (ok : Int → Prop) (l : List UInt8) (K : List Nat) (m : Method) (va vr : Value)
  (hx0 : Ext w0 w) (hB0 : w0.heap.size ≤ B) (hW : Wr w B b (.func (.func g) #[] cb) l K) (hB : B ≤ w.heap.size) (hN : NumP w B g cb num ok) (ha : Sl intE w0 va m.args) (hr : Sl strE w0 vr m.raises)
  (hok : ∀ a ∈ m.args, ok a) (hres : 0 ≤ m.result → ok m.result) (han : m.args.length ≤ 1048576) (hrn : m.raises.length ≤ 1048576) (hnm : m.name.size ≤ 1048576) (hpm : m.proc.size ≤ 1048576) (hlen : l.length + (methodTx num m).length ≤ 140737488355328) :
  Calls Tryz.prog 154 #[.pointer (some ⟨b, 0, none⟩), .agg #[.string m.name, va, .int .i64 m.result, vr, .string m.proc]] w fun e w' => e = .returned (.tuple #[]) ∧ WrPost w B b (.func (.func g) #[] cb) (l ++ methodTx num m) K w' := by
 have hbel : ∀ w', Below B w w' → Ext w0 w' := fun w' h => Below.trans hx0 (Below.mono h hB0)
 have hlens : (methodTx num m).length = 1 + m.name.size + 1 + (joinTx (m.args.map num)).length + 1 + (resultTx num m.result).length + (raisesTx m.raises).length + (procTx m.proc).length := by
  simp [methodTx]; omega
 have htu := fun (w' : World) (h : Below B w w') (hB' : B ≤ w'.heap.size) => turned_int_str g cb w' va m.args num (ha.mono (hbel w' h)) han (numMap hN h hB' m.args hok)
 have hjr := fun (w' : World) (h : Below B w w') (h0 : ¬ m.raises.length = 0) => join_any w' vr m.raises (hr.mono (hbel w' h)) (by
  have : (raisesTx m.raises).length = (joinTx m.raises).length + 1 := by unfold raisesTx; rw [if_neg h0]; rfl
  omega) hrn
 have hja := fun (w' : World) (v : Value) (hv : Sl strE w' v (m.args.map num)) => join_any w' v (m.args.map num) hv (by omega) (by rw [List.length_map]; exact han)
 have hnr := fun (w' : World) (h : Below B w w') (h0 : 0 ≤ m.result) => hN.run m.result (hres h0) w' h
 have eg : ∀ args w, (callFunc g args).run Tryz.prog w = .ok (.enter g args) w := hN.ent
 obtain ⟨Aa, ca, rfl⟩ := ha.len
 obtain ⟨Ar, cr, rfl⟩ := hr.len
 have hms : MS w B b (.func (.func g) #[] cb) K w.heap.size (.cells #[.string m.name, .slice Aa m.args.length ca, .int .i64 m.result, .slice Ar m.raises.length cr, .string m.proc] 74) l (w.alloc (.cells #[.string m.name, .slice Aa m.args.length ca, .int .i64 m.result, .slice Ar m.raises.length cr, .string m.proc] 74)) :=
  ⟨hW.add _ (by rintro c f h; injection h with _ h _; cases h), heap_alloc_self _ _, (Below.refl _ _).alloc hB _, fun k hk => Below.heap_alloc _ _ _ (hW.ks k hk).2.1⟩
 have hS : ∀ l' w', MS w B b (.func (.func g) #[] cb) K w.heap.size (.cells #[.string m.name, .slice Aa m.args.length ca, .int .i64 m.result, .slice Ar m.raises.length cr, .string m.proc] 74) l' w' →
   (w'.cell? ⟨w.heap.size, 0, none⟩ = some (.string m.name) ∧ w'.cell? ⟨w.heap.size, 1, none⟩ = some (.slice Aa m.args.length ca) ∧ w'.cell? ⟨w.heap.size, 2, none⟩ = some (.int .i64 m.result) ∧ w'.cell? ⟨w.heap.size, 3, none⟩ = some (.slice Ar m.raises.length cr) ∧ w'.cell? ⟨w.heap.size, 4, none⟩ = some (.string m.proc) ∧ w'.cell? ⟨b, 2, none⟩ = some (.func (.func g) #[] cb)) := fun l' w' h =>
  ⟨heap_cell h.box 0 _ rfl, heap_cell h.box 1 _ rfl, heap_cell h.box 2 _ rfl, heap_cell h.box 3 _ rfl, heap_cell h.box 4 _ rfl, h.num⟩
 have hJl : (joinTx (m.args.map num)).length ≤ 140737488355328 := by omega
 have Hms := Lib.hid hms
 have HS := Lib.hid hS
 have Htu := Lib.hid htu
 have Hjr := Lib.hid hjr
 have Hja := Lib.hid hja
 have Hnr := Lib.hid hnr
 have Hlens := Lib.hid hlens
 have hmd : methodTx num m = [32] ++ m.name.data.toList ++ [40] ++ joinTx (m.args.map num) ++ [41] ++ resultTx num m.result ++ raisesTx m.raises ++ procTx m.proc := rfl
 have Hmd := Lib.hid hmd
 generalize methodTx num m = TX at hlen Hlens Hmd ⊢
 have Hln := Lib.hid hlen
 clear hms hS htu hjr hja hnr hlens hmd hlen ha hr hN hW hbel hres hok
 have hc1 : ¬ 9223372036854775807 < 1 + m.name.size := by omega
 have hc2 : ¬ 9223372036854775807 < 1 + m.name.size + 1 := by omega
 have hc3 : ¬ 9223372036854775807 < 1 + m.name.size + 1 + (joinTx (m.args.map num)).length := by omega
 have hc4 : ¬ 9223372036854775807 < 1 + m.name.size + 1 + (joinTx (m.args.map num)).length + 1 := by omega
 go_enter Tryz.func154, Tryz.ntmps154
 go_wp2_with fail
 generalize w.alloc (.cells #[.string m.name, .slice Aa m.args.length ca, .int .i64 m.result, .slice Ar m.raises.length cr, .string m.proc] 74) = w1 at Hms ⊢
 generalize w.heap.size = bm at Hms HS ⊢
 go_cut [] (fun wx => Hid (MS w B b (.func (.func g) #[] cb) K bm (.cells #[.string m.name, .slice Aa m.args.length ca, .int .i64 m.result, .slice Ar m.raises.length cr, .string m.proc] 74) (l ++ ([32] ++ m.name.data.toList ++ [40] ++ joinTx (m.args.map num) ++ [41])) wx))
 case first =>
  have hm1 := Hms.out.later (Ext.refl _).drew
  have Htu1 := Lib.hid (Htu.out w1.drew hm1.below hm1.le)
  have Hm1 := Lib.hid hm1
  clear hm1
  go_region_held3 (fun w' => w'.cell? ⟨bm, 0, none⟩ = some (.string m.name) ∧ w'.cell? ⟨bm, 1, none⟩ = some (.slice Aa m.args.length ca) ∧ w'.cell? ⟨bm, 2, none⟩ = some (.int .i64 m.result) ∧ w'.cell? ⟨bm, 3, none⟩ = some (.slice Ar m.raises.length cr) ∧ w'.cell? ⟨bm, 4, none⟩ = some (.string m.proc) ∧ w'.cell? ⟨b, 2, none⟩ = some (.func (.func g) #[] cb)) (first | exact HS.out _ _ Hm1.out | exact HS.out _ _ hm4 | exact HS.out _ _ hm3 | exact HS.out _ _ hm2) (first | (go_at_call 189; refine Htu1.out.mono ?_; rintro e w2 ⟨v2, rfl, hv2, hx2⟩; have hm2 := Hm1.out.later hx2; obtain ⟨A2, c2, e2⟩ := hv2.any.len; rw [List.length_map] at e2; subst e2) | (go_at_call 188; refine (Hja.out _ _ hv2.any).mono ?_; rintro e w3 ⟨rfl, hx3⟩; have hm3 := hm2.later hx3) | (go_at_call 148; refine (writeString_any w3 B b (.func (.func g) #[] cb) l (bm :: K) _ hm3.wr hm3.le (by have := Hln.out; have := Hlens.out; simp only [ba_app_size, size_mk]; simp; omega)).mono ?_; rintro e w4 ⟨rfl, hw4⟩; have hm4 := hm3.write hw4))
  all_goals
   go_wp2_with fail
   go_meet
   have h := hm4
   simp only [ba_app, ba_mk] at h
   exact Lib.hid h
 case rest =>
  clear Hms hc1 hc2 hc3 hc4
  replace hcut := Lib.hid hcut.out
  obtain ⟨d0, d1, d2, d3, d4, d5⟩ := HS.out _ _ hcut.out
  go_upto_if 26 with fail
  go_cut [] (fun wx => Hid (MS w B b (.func (.func g) #[] cb) K bm (.cells #[.string m.name, .slice Aa m.args.length ca, .int .i64 m.result, .slice Ar m.raises.length cr, .string m.proc] 74) ((l ++ ([32] ++ m.name.data.toList ++ [40] ++ joinTx (m.args.map num) ++ [41])) ++ resultTx num m.result) wx))
  case first =>
   by_cases hr0 : m.result < 0
   ·have hre : resultTx num m.result = [45] := by unfold resultTx; rw [if_pos hr0]
    have Hre := Lib.hid hre
    clear hre
    go_wp2_with fail
    refine (writeString_any wc B b (.func (.func g) #[] cb) (l ++ ([32] ++ m.name.data.toList ++ [40] ++ joinTx (m.args.map num) ++ [41])) (bm :: K) ⟨#[45]⟩ hcut.out.wr hcut.out.le (by have e1 : (⟨#[45]⟩ : ByteArray).size = 1 := rfl; have := Hln.out; have := Hlens.out; rw [Hre.out] at this; simp at this ⊢; omega)).mono ?_
    rintro e w4 ⟨rfl, hw4⟩
    have hm4 := hcut.out.write hw4
    go_wp2_with fail
    go_meet
    rw [Hre.out]
    exact Lib.hid hm4
   ·have hre : resultTx num m.result = (num m.result).data.toList := by unfold resultTx; rw [if_neg hr0]
    have Hre := Lib.hid hre
    have hm1 := hcut.out.later (Ext.refl _).drew
    have Hn1 := Lib.hid (Hnr.out wc.drew hm1.below (by omega))
    have Hm1 := Lib.hid hm1
    clear hre hm1 d0 d1 d2 d3 d4 d5
    obtain ⟨d0, d1, d2, d3, d4, d5⟩ := HS.out _ _ hcut.out
    go_wp2_with fail
    go_region_held3 (fun w' => w'.cell? ⟨bm, 0, none⟩ = some (.string m.name) ∧ w'.cell? ⟨bm, 1, none⟩ = some (.slice Aa m.args.length ca) ∧ w'.cell? ⟨bm, 2, none⟩ = some (.int .i64 m.result) ∧ w'.cell? ⟨bm, 3, none⟩ = some (.slice Ar m.raises.length cr) ∧ w'.cell? ⟨bm, 4, none⟩ = some (.string m.proc) ∧ w'.cell? ⟨b, 2, none⟩ = some (.func (.func g) #[] cb)) (first | exact HS.out _ _ Hm1.out | exact HS.out _ _ hm4 | exact HS.out _ _ hm2) (first | (go_at_call 148; refine (writeString_any w2 B b (.func (.func g) #[] cb) (l ++ ([32] ++ m.name.data.toList ++ [40] ++ joinTx (m.args.map num) ++ [41])) (bm :: K) _ hm2.wr hm2.le (by have := Hln.out; have := Hlens.out; rw [Hre.out] at this; simp at this ⊢; omega)).mono ?_; rintro e w4 ⟨rfl, hw4⟩; have hm4 := hm2.write hw4) | (refine Hn1.out.mono ?_; rintro e w2 ⟨rfl, hx2⟩; have hm2 := Hm1.out.later hx2))
    all_goals
     go_wp2_with fail
     go_meet
     rw [Hre.out]
     exact Lib.hid hm4
  case rest =>
   clear d0 d1 d2 d3 d4 d5
   replace hcut := Lib.hid hcut.out
   obtain ⟨d0, d1, d2, d3, d4, d5⟩ := HS.out _ _ hcut.out
   go_upto_if 47 with fail
   go_cut [] (fun wx => Hid (MS w B b (.func (.func g) #[] cb) K bm (.cells #[.string m.name, .slice Aa m.args.length ca, .int .i64 m.result, .slice Ar m.raises.length cr, .string m.proc] 74) (((l ++ ([32] ++ m.name.data.toList ++ [40] ++ joinTx (m.args.map num) ++ [41])) ++ resultTx num m.result) ++ raisesTx m.raises) wx))
   case first =>
    by_cases hr0 : m.raises.length = 0
    ·have hre : raisesTx m.raises = [] := by unfold raisesTx; rw [if_pos hr0]
     have hr1 : ¬ (0 : Int) < (m.raises.length : Int) := by omega
     have Hre := Lib.hid hre
     have Hr0 := Lib.hid hr0
     clear hre hr0
     go_wp2_with fail
     go_meet
     rw [Hre.out, List.append_nil]
     exact Lib.hid hcut.out
    ·have hre : raisesTx m.raises = 33 :: joinTx m.raises := by unfold raisesTx; rw [if_neg hr0]
     have hr1 : (0 : Int) < (m.raises.length : Int) := by omega
     have hjl : (joinTx m.raises).length ≤ 140737488355328 := by
      have := Hln.out; have := Hlens.out
      rw [hre] at this
      simp at this
      omega
     have hc1 : ¬ 9223372036854775807 < 1 + (joinTx m.raises).length := by omega
     have Hre := Lib.hid hre
     have hm1 := hcut.out.later (Ext.refl _).drew
     have Hn1 := Lib.hid (Hjr.out wc.drew hm1.below hr0)
     have Hm1 := Lib.hid hm1
     clear hre hm1
     go_wp2_with fail
     go_region_held3 (fun w' => w'.cell? ⟨bm, 0, none⟩ = some (.string m.name) ∧ w'.cell? ⟨bm, 1, none⟩ = some (.slice Aa m.args.length ca) ∧ w'.cell? ⟨bm, 2, none⟩ = some (.int .i64 m.result) ∧ w'.cell? ⟨bm, 3, none⟩ = some (.slice Ar m.raises.length cr) ∧ w'.cell? ⟨bm, 4, none⟩ = some (.string m.proc) ∧ w'.cell? ⟨b, 2, none⟩ = some (.func (.func g) #[] cb)) (first | exact HS.out _ _ Hm1.out | exact HS.out _ _ hm4 | exact HS.out _ _ hm2) (first | (go_at_call 188; refine Hn1.out.mono ?_; rintro e w2 ⟨rfl, hx2⟩; have hm2 := Hm1.out.later hx2) | (go_at_call 148; refine (writeString_any w2 B b (.func (.func g) #[] cb) ((l ++ ([32] ++ m.name.data.toList ++ [40] ++ joinTx (m.args.map num) ++ [41])) ++ resultTx num m.result) (bm :: K) _ hm2.wr hm2.le (by have := Hln.out; have := Hlens.out; rw [Hre.out] at this; simp only [ba_app_size, size_mk]; simp at this ⊢; omega)).mono ?_; rintro e w4 ⟨rfl, hw4⟩; have hm4 := hm2.write hw4))
     all_goals
      go_wp2_with fail
      go_meet
      rw [Hre.out]
      have h := hm4
      simp only [ba_app, ba_mk] at h
      exact Lib.hid h
   case rest =>
    clear d0 d1 d2 d3 d4 d5
    replace hcut := Lib.hid hcut.out
    obtain ⟨d0, d1, d2, d3, d4, d5⟩ := HS.out _ _ hcut.out
    have hfin : ∀ wz, MS w B b (.func (.func g) #[] cb) K bm (.cells #[.string m.name, .slice Aa m.args.length ca, .int .i64 m.result, .slice Ar m.raises.length cr, .string m.proc] 74) ((((l ++ ([32] ++ m.name.data.toList ++ [40] ++ joinTx (m.args.map num) ++ [41])) ++ resultTx num m.result) ++ raisesTx m.raises) ++ procTx m.proc) wz → WrPost w B b (.func (.func g) #[] cb) (l ++ TX) K wz := fun wz h => by
     refine ⟨?_, h.below, h.keep⟩
     have e : (((l ++ ([32] ++ m.name.data.toList ++ [40] ++ joinTx (m.args.map num) ++ [41])) ++ resultTx num m.result) ++ raisesTx m.raises) ++ procTx m.proc = l ++ TX := by rw [Hmd.out]; simp
     rw [e] at h
     exact h.wr.sub (fun k hk => by simp [hk])
    have Hfin := Lib.hid hfin
    clear hfin
    cases hpe : m.proc.toList.isEmpty
    ·have hre : procTx m.proc = 61 :: m.proc.data.toList := by unfold procTx; rw [hpe]; rfl
     have Hre := Lib.hid hre
     have hc1 : ¬ 9223372036854775807 < 1 + m.proc.size := by omega
     have hm1 := hcut.out.later (Ext.refl _).drew
     have Hm1 := Lib.hid hm1
     clear hre hm1
     go_wp2_with fail
     go_region_held3 (fun w' => w'.cell? ⟨bm, 0, none⟩ = some (.string m.name) ∧ w'.cell? ⟨bm, 1, none⟩ = some (.slice Aa m.args.length ca) ∧ w'.cell? ⟨bm, 2, none⟩ = some (.int .i64 m.result) ∧ w'.cell? ⟨bm, 3, none⟩ = some (.slice Ar m.raises.length cr) ∧ w'.cell? ⟨bm, 4, none⟩ = some (.string m.proc) ∧ w'.cell? ⟨b, 2, none⟩ = some (.func (.func g) #[] cb)) (first | exact HS.out _ _ Hm1.out | exact HS.out _ _ hm4) ((go_at_call 148; refine (writeString_any wc.drew B b (.func (.func g) #[] cb) (((l ++ ([32] ++ m.name.data.toList ++ [40] ++ joinTx (m.args.map num) ++ [41])) ++ resultTx num m.result) ++ raisesTx m.raises) (bm :: K) _ Hm1.out.wr Hm1.out.le (by have := Hln.out; have := Hlens.out; rw [Hre.out] at this; simp only [ba_app_size, size_mk]; simp at this ⊢; omega)).mono ?_; rintro e w4 ⟨rfl, hw4⟩; have hm4 := Hm1.out.write hw4))
     all_goals
      go_wp2_with fail
      go_end0
      have h := hm4
      simp only [ba_app] at h
      exact ⟨rfl, Hfin.out _ (by rw [Hre.out]; exact h)⟩
    ·have hre : procTx m.proc = [] := by unfold procTx; rw [hpe]; rfl
     have Hre := Lib.hid hre
     clear hre
     go_wp2_with fail
     go_end0
     exact ⟨rfl, Hfin.out _ (by rw [Hre.out, List.append_nil]; exact hcut.out)⟩
end Go.Proofs.YtldnjnnhfeobdaaGreatDoor
/- Contract: the line of a type. Conditions: a right type, lengths below 2^47. -/
namespace Go.Proofs.YtldnjnnhfeobdaaGreatDoor
open Go.RowKit Go.Shelf
theorem grow_ext (w : World) (os : Array Obj) : Ext w (Go.Sort.grow w os) :=
 ⟨rfl, rfl, rfl, by simp [Go.Sort.grow], fun k hk => by simp [Go.Sort.grow, Array.getElem?_append_left hk]⟩
theorem itoa_any (n : Int) (h0 : -9223372036854775808 ≤ n) (h1 : n ≤ 9223372036854775807) (w : World) (hG : Glob w) : Calls Tryz.prog 113 #[.int .i64 n] w (Ret w (.string ⟨(Lib.itoa n).toArray⟩)) :=
 (Tryz.strconv_Itoa n h0 h1 w hG.tab).mono fun e w' ⟨he, k, os, hw⟩ => ⟨he, by rw [hw]; exact ((Ext.refl w).drewN k).trans (grow_ext _ _)⟩
def midTx (t : Ty) : List UInt8 :=
 if t.kind = 3 then [32] ++ Lib.itoa t.low ++ [32] ++ Lib.itoa t.high
 else if t.kind = 9 ∨ t.kind = 11 ∨ t.kind = 10 ∨ t.kind = 12 then (if t.branded then [32, 34] ++ t.brand.data.toList ++ [34] else [32, 45])
 else if t.kind = 13 then [32] ++ t.opaq.data.toList else []
def superTx (num : Int → ByteArray) (t : Ty) : List UInt8 := if hasSuperB t.kind then [32] ++ (num t.super).data.toList else []
def partTx (num : Int → ByteArray) (p : Part) : List UInt8 := [32] ++ p.name.data.toList ++ [58] ++ (num p.type).data.toList
def overTx (o : Over) : List UInt8 := [32] ++ o.name.data.toList ++ [61] ++ o.proc.data.toList
def lineTx (num : Int → ByteArray) (t : Ty) : List UInt8 :=
 Lib.itoa t.kind ++ midTx t ++ superTx num t ++ t.parts.flatMap (partTx num) ++ t.methods.flatMap (methodTx num) ++ t.overs.flatMap overTx ++ [10]
theorem MS.inner {w : World} {B b : Nat} {fv : Value} {K : List Nat} {bm : Nat} {o : Obj} {l : List UInt8} {wr : World} (h : MS w B b fv K bm o l wr) (po : Obj) (hpo : ∀ c f, po ≠ .cells c 5 f) :
  MS wr B b fv (bm :: K) wr.heap.size po l (wr.alloc po) :=
 ⟨h.wr.add po hpo, heap_alloc_self _ _, (Below.refl _ _).alloc h.le _, fun k hk => Below.heap_alloc _ _ _ (h.wr.ks k hk).2.1⟩
theorem MS.back {w : World} {B b : Nat} {fv : Value} {K : List Nat} {bm pb : Nat} {o po : Obj} {l l' : List UInt8} {wr w4 : World} (h : MS w B b fv K bm o l wr) (h2 : MS wr B b fv (bm :: K) pb po l' w4) :
  MS w B b fv K bm o l' w4 :=
 ⟨h2.wr.sub (fun k hk => by simp only [List.mem_cons] at hk ⊢; exact .inr hk), by rw [h2.keep bm (by simp)]; exact h.box, h.below.trans h2.below, fun k hk => by rw [h2.keep k (by simp [hk])]; exact h.keep k hk⟩
theorem flat_take_le {α : Type} (f : α → List UInt8) (l : List α) (k : Nat) (hk : k < l.length) : ((l.take k).flatMap f).length + (f l[k]).length ≤ (l.flatMap f).length := by
 have h1 := flat_take_one f l k hk
 have h2 : l.flatMap f = (l.take (k + 1)).flatMap f ++ (l.drop (k + 1)).flatMap f := by rw [← List.flatMap_append, List.take_append_drop]
 rw [h2, List.length_append, h1, List.length_append]
 omega
set_option maxRecDepth 100000 in
set_option maxHeartbeats 16000000 in
theorem line_any (w0 w : World) (B b g : Nat) (cb : Array Value) (num : Int → ByteArray) (ok : Int → Prop) (l : List UInt8) (K : List Nat) (n : Nat) (t : Ty) (vp vm vo : Value)
  (hx0 : Ext w0 w) (hB0 : w0.heap.size ≤ B) (hW : Wr w B b (.func (.func g) #[] cb) l K) (hB : B ≤ w.heap.size) (hN : NumP w B g cb num ok) (hof : TyOf w0 t vp vm vo) (hf : Fine n t)
  (hok : ∀ i : Int, 0 ≤ i → i < n → ok i) (hG : Glob w0) (hs : TySmall t) (hnum : ∀ i, ok i → (num i).size ≤ 1048576) (hlo : -9223372036854775808 ≤ t.low ∧ t.low ≤ 9223372036854775807) (hhi : -9223372036854775808 ≤ t.high ∧ t.high ≤ 9223372036854775807)
  (hitl : (Lib.itoa t.low).length ≤ 1048576) (hith : (Lib.itoa t.high).length ≤ 1048576) (hlen : l.length + (lineTx num t).length ≤ 140737488355328) :
  Calls Tryz.prog 114 #[.pointer (some ⟨b, 0, none⟩), tyV t vp vm vo] w fun e w' => e = .returned (.tuple #[]) ∧ WrPost w B b (.func (.func g) #[] cb) (l ++ lineTx num t) K w' := by
 have hbel : ∀ w', Below B w w' → Ext w0 w' := fun w' h => Below.trans hx0 (Below.mono h hB0)
 have hlens : (lineTx num t).length = (Lib.itoa t.kind).length + (midTx t).length + (superTx num t).length + (t.parts.flatMap (partTx num)).length + (t.methods.flatMap (methodTx num)).length + (t.overs.flatMap overTx).length + 1 := by
  simp [lineTx]; omega
 have hit := fun (i : Int) (h : -9223372036854775808 ≤ i ∧ i ≤ 9223372036854775807) (w' : World) (hb : Below B w w') => itoa_any i h.1 h.2 w' (hG.mono (hbel w' hb))
 have hnr := fun (i : Int) (h : 0 ≤ i ∧ i < n) (w' : World) (hb : Below B w w') => hN.run i (hok i h.1 h.2) w' hb
 have hns := fun (i : Int) (h : 0 ≤ i ∧ i < n) => hnum i (hok i h.1 h.2)
 have hme := fun (l' : List UInt8) (w' : World) (m : Method) (va vr : Value) (hb : Below B w w') (hm : m ∈ t.methods) (hW' : Wr w' B b (.func (.func g) #[] cb) l' (w.heap.size :: K)) (ha : Sl intE w0 va m.args) (hr : Sl strE w0 vr m.raises) (hl' : l'.length + (methodTx num m).length ≤ 140737488355328) =>
  method_any w0 w' B b g cb num ok l' (w.heap.size :: K) m va vr (hbel w' hb) hB0 hW' (Nat.le_trans hW'.base (Nat.le_of_lt hW'.lt)) (hN.later hb) ha hr (fun a h => hok a (hf.arg m hm a h).1 (hf.arg m hm a h).2) (fun h => hok _ h ((hf.result m hm).elim (fun e => by omega) (fun e => e.2))) (by have := hf.args m hm; omega) (by have := hf.raises m hm; omega) (hs.method m hm).1 (hs.method m hm).2.1 hl'
 have eg : ∀ args w, (callFunc g args).run Tryz.prog w = .ok (.enter g args) w := hN.ent
 obtain ⟨Ap, cp, ep, hsp⟩ := hof.parts.part
 obtain ⟨Am, cm, em, hsm⟩ := hof.methods.method
 obtain ⟨Ao, co, eo, hso⟩ := hof.overs.over
 subst ep em eo
 have hms : MS w B b (.func (.func g) #[] cb) K w.heap.size (.cells #[.int .u8 t.kind, .int .i64 t.low, .int .i64 t.high, .bool t.branded, .string t.brand, .string t.opaq, .int .i64 t.super, .slice Ap t.parts.length cp, .slice Am t.methods.length cm, .slice Ao t.overs.length co] 42) l (w.alloc (.cells #[.int .u8 t.kind, .int .i64 t.low, .int .i64 t.high, .bool t.branded, .string t.brand, .string t.opaq, .int .i64 t.super, .slice Ap t.parts.length cp, .slice Am t.methods.length cm, .slice Ao t.overs.length co] 42)) := ⟨hW.add _ (by rintro c f h; injection h with _ h _; cases h), heap_alloc_self _ _, (Below.refl _ _).alloc hB _, fun k hk => Below.heap_alloc _ _ _ (hW.ks k hk).2.1⟩
 have hS : ∀ l' w', MS w B b (.func (.func g) #[] cb) K w.heap.size (.cells #[.int .u8 t.kind, .int .i64 t.low, .int .i64 t.high, .bool t.branded, .string t.brand, .string t.opaq, .int .i64 t.super, .slice Ap t.parts.length cp, .slice Am t.methods.length cm, .slice Ao t.overs.length co] 42) l' w' → (w'.cell? ⟨w.heap.size, 0, none⟩ = some (.int .u8 t.kind) ∧ w'.cell? ⟨w.heap.size, 1, none⟩ = some (.int .i64 t.low) ∧ w'.cell? ⟨w.heap.size, 2, none⟩ = some (.int .i64 t.high) ∧ w'.cell? ⟨w.heap.size, 3, none⟩ = some (.bool t.branded) ∧ w'.cell? ⟨w.heap.size, 4, none⟩ = some (.string t.brand) ∧ w'.cell? ⟨w.heap.size, 5, none⟩ = some (.string t.opaq) ∧ w'.cell? ⟨w.heap.size, 6, none⟩ = some (.int .i64 t.super) ∧ w'.cell? ⟨w.heap.size, 7, none⟩ = some (.slice Ap t.parts.length cp) ∧ w'.cell? ⟨w.heap.size, 8, none⟩ = some (.slice Am t.methods.length cm) ∧ w'.cell? ⟨w.heap.size, 9, none⟩ = some (.slice Ao t.overs.length co) ∧ w'.cell? ⟨b, 2, none⟩ = some (.func (.func g) #[] cb)) := fun l' w' h =>
  ⟨heap_cell h.box 0 _ rfl, heap_cell h.box 1 _ rfl, heap_cell h.box 2 _ rfl, heap_cell h.box 3 _ rfl, heap_cell h.box 4 _ rfl, heap_cell h.box 5 _ rfl, heap_cell h.box 6 _ rfl, heap_cell h.box 7 _ rfl, heap_cell h.box 8 _ rfl, heap_cell h.box 9 _ rfl, h.num⟩
 have hmd : lineTx num t = Lib.itoa t.kind ++ midTx t ++ superTx num t ++ t.parts.flatMap (partTx num) ++ t.methods.flatMap (methodTx num) ++ t.overs.flatMap overTx ++ [10] := rfl
 have hkd := hf.kind
 have hsu := hf.super
 have hbr := hs.brand
 have hop := hs.opaq
 have hpt := hf.part
 have hpn := hs.part
 have hon := hs.over
 have hpl := hf.parts
 have hml := hf.methods
 have hol := hf.overs
 have Hms := Lib.hid hms
 have HS := Lib.hid hS
 have Hit := Lib.hid hit
 have Hnr := Lib.hid hnr
 have Hns := Lib.hid hns
 have Hme := Lib.hid hme
 have Hbel := Lib.hid hbel
 have Hsp := Lib.hid hsp
 have Hsm := Lib.hid hsm
 have Hso := Lib.hid hso
 have Hlens := Lib.hid hlens
 have Hmd := Lib.hid hmd
 have Hsu := Lib.hid hsu
 have Hpt := Lib.hid hpt
 have Hpn := Lib.hid hpn
 have Hon := Lib.hid hon
 have Hln := Lib.hid hlen
 have hkb : (Lib.itoa t.kind).length ≤ 140737488355328 := by omega
 clear hms hS hit hnr hns hme hbel hsp hsm hso hlens hmd hsu hpt hpn hon hlen hof hf hok hG hs hN hW hnum
 unfold tyV
 generalize lineTx num t = TX at Hln Hlens Hmd ⊢
 have hwk : IntKind.i64.wrap t.kind = t.kind := IntWalk.i64_in _ (by omega)
 go_enter Tryz.func114, Tryz.ntmps114
 go_wp2_with fail
 generalize w.alloc (.cells #[.int .u8 t.kind, .int .i64 t.low, .int .i64 t.high, .bool t.branded, .string t.brand, .string t.opaq, .int .i64 t.super, .slice Ap t.parts.length cp, .slice Am t.methods.length cm, .slice Ao t.overs.length co] 42) = w1 at Hms ⊢
 generalize w.heap.size = bm at Hms HS Hme ⊢
 go_cut [] (fun wx => Hid (MS w B b (.func (.func g) #[] cb) K bm (.cells #[.int .u8 t.kind, .int .i64 t.low, .int .i64 t.high, .bool t.branded, .string t.brand, .string t.opaq, .int .i64 t.super, .slice Ap t.parts.length cp, .slice Am t.methods.length cm, .slice Ao t.overs.length co] 42) (l ++ Lib.itoa t.kind) wx))
 case first =>
  have hm1 := Hms.out.later (Ext.refl _).drew
  have Hm1 := Lib.hid hm1
  clear hm1
  go_region_held3 (fun w' => w'.cell? ⟨bm, 0, none⟩ = some (.int .u8 t.kind) ∧ w'.cell? ⟨bm, 1, none⟩ = some (.int .i64 t.low) ∧ w'.cell? ⟨bm, 2, none⟩ = some (.int .i64 t.high) ∧ w'.cell? ⟨bm, 3, none⟩ = some (.bool t.branded) ∧ w'.cell? ⟨bm, 4, none⟩ = some (.string t.brand) ∧ w'.cell? ⟨bm, 5, none⟩ = some (.string t.opaq) ∧ w'.cell? ⟨bm, 6, none⟩ = some (.int .i64 t.super) ∧ w'.cell? ⟨bm, 7, none⟩ = some (.slice Ap t.parts.length cp) ∧ w'.cell? ⟨bm, 8, none⟩ = some (.slice Am t.methods.length cm) ∧ w'.cell? ⟨bm, 9, none⟩ = some (.slice Ao t.overs.length co) ∧ w'.cell? ⟨b, 2, none⟩ = some (.func (.func g) #[] cb)) (first | exact HS.out _ _ Hm1.out | exact HS.out _ _ hm9 | exact HS.out _ _ hm3 | exact HS.out _ _ hm2) (first | (go_at_call 113; refine (Hit.out _ ⟨by omega, by omega⟩ _ Hm1.out.below).mono ?_; rintro e w2 ⟨rfl, hxw2⟩; have hm2 := Hm1.out.later hxw2) | (go_at_call 148; refine (writeString_any w2 B b (.func (.func g) #[] cb) l (bm :: K) _ hm2.wr hm2.le (by have := Hln.out; have := Hlens.out; simp only [ba_app_size, size_mk]; simp at this ⊢; omega)).mono ?_; rintro e w9 ⟨rfl, hw9⟩; have hm9 := hm2.write hw9))
  all_goals
   go_wp2_with fail
   go_meet
   have h := hm9
   (try simp only [ba_app, ba_mk] at h)
   exact Lib.hid h
 case rest =>
  clear Hms
  replace hcut := Lib.hid hcut.out
  obtain ⟨d0, d1, d2, d3, d4, d5, d6, d7, d8, d9, d10⟩ := HS.out _ _ hcut.out
  go_upto_block 0 with fail
  go_cut [] (fun wx => Hid (MS w B b (.func (.func g) #[] cb) K bm (.cells #[.int .u8 t.kind, .int .i64 t.low, .int .i64 t.high, .bool t.branded, .string t.brand, .string t.opaq, .int .i64 t.super, .slice Ap t.parts.length cp, .slice Am t.methods.length cm, .slice Ao t.overs.length co] 42) ((l ++ Lib.itoa t.kind) ++ midTx t) wx))
  case first =>
   by_cases hk : t.kind = 3
   ·skip
    have hmx : midTx t = [32] ++ Lib.itoa t.low ++ [32] ++ Lib.itoa t.high := by unfold midTx; rw [if_pos hk]
    have q3 : (t.kind == 3) = true := by rw [beq_iff_eq]; exact hk
    have Hmx := Lib.hid hmx
    have Hk := Lib.hid hk
    clear hmx hk
    have hm1 := hcut.out.later (Ext.refl _).drew
    have Hm1 := Lib.hid hm1
    clear hm1
    have tok1 : True := trivial
    have hc1 : ¬ 9223372036854775807 < 1 + (Lib.itoa t.low).length := by omega
    have hc2 : ¬ 9223372036854775807 < 1 + (Lib.itoa t.low).length + 1 := by omega
    have hc3 : ¬ 9223372036854775807 < 1 + (Lib.itoa t.low).length + 1 + (Lib.itoa t.high).length := by omega
    go_wp2_with fail
    go_region_held3 (fun w' => w'.cell? ⟨bm, 0, none⟩ = some (.int .u8 t.kind) ∧ w'.cell? ⟨bm, 1, none⟩ = some (.int .i64 t.low) ∧ w'.cell? ⟨bm, 2, none⟩ = some (.int .i64 t.high) ∧ w'.cell? ⟨bm, 3, none⟩ = some (.bool t.branded) ∧ w'.cell? ⟨bm, 4, none⟩ = some (.string t.brand) ∧ w'.cell? ⟨bm, 5, none⟩ = some (.string t.opaq) ∧ w'.cell? ⟨bm, 6, none⟩ = some (.int .i64 t.super) ∧ w'.cell? ⟨bm, 7, none⟩ = some (.slice Ap t.parts.length cp) ∧ w'.cell? ⟨bm, 8, none⟩ = some (.slice Am t.methods.length cm) ∧ w'.cell? ⟨bm, 9, none⟩ = some (.slice Ao t.overs.length co) ∧ w'.cell? ⟨b, 2, none⟩ = some (.func (.func g) #[] cb)) (first | exact HS.out _ _ Hm1.out | exact HS.out _ _ hm9 | exact HS.out _ _ hm3 | exact HS.out _ _ hm2) (first | (go_at_call 113; have _t := tok1; refine (Hit.out _ hlo _ Hm1.out.below).mono ?_; clear tok1; rintro e w2 ⟨rfl, hxw2⟩; have hm2 := Hm1.out.later hxw2) | (go_at_call 113; refine (Hit.out _ hhi _ hm2.below).mono ?_; rintro e w3 ⟨rfl, hxw3⟩; have hm3 := hm2.later hxw3) | (go_at_call 148; refine (writeString_any w3 B b (.func (.func g) #[] cb) (l ++ Lib.itoa t.kind) (bm :: K) _ hm3.wr hm3.le (by have := Hln.out; have := Hlens.out; rw [Hmx.out] at this; simp only [ba_app_size, size_mk]; simp at this ⊢; omega)).mono ?_; rintro e w9 ⟨rfl, hw9⟩; have hm9 := hm3.write hw9))
    all_goals
     go_wp2_with fail
     go_meet
     have h := hm9
     (try simp only [ba_app, ba_mk] at h)
     rw [Hmx.out]
     exact Lib.hid h
   have nk3 := hk
   clear hk
   by_cases hk : t.kind = 9
   ·skip
    obtain hbd | hbd : t.branded = false ∨ t.branded = true := by cases t.branded <;> simp
    ·have hmx : midTx t = [32, 45] := by unfold midTx; rw [if_neg (by omega), if_pos (by omega), hbd]; rfl
     rw [hbd] at d3
     clear hbd
     have q3 : (t.kind == 3) = false := by rw [beq_eq_false_iff_ne]; omega
     have q9 : (t.kind == 9) = true := by rw [beq_iff_eq]; exact hk
     have Hmx := Lib.hid hmx
     have Hk := Lib.hid hk
     clear hmx hk
     go_wp2_with fail
     refine (writeString_any wc B b (.func (.func g) #[] cb) (l ++ Lib.itoa t.kind) (bm :: K) ⟨#[32, 45]⟩ hcut.out.wr hcut.out.le (by have e1 : (⟨#[32, 45]⟩ : ByteArray).size = 2 := rfl; have := Hln.out; have := Hlens.out; rw [Hmx.out] at this; simp at this ⊢; omega)).mono ?_
     rintro e w9 ⟨rfl, hw9⟩
     have hm9 := hcut.out.write hw9
     go_wp2_with fail
     go_meet
     rw [Hmx.out]
     exact Lib.hid hm9
    ·have hmx : midTx t = [32, 34] ++ t.brand.data.toList ++ [34] := by unfold midTx; rw [if_neg (by omega), if_pos (by omega), hbd]; rfl
     rw [hbd] at d3
     clear hbd
     have q3 : (t.kind == 3) = false := by rw [beq_eq_false_iff_ne]; omega
     have q9 : (t.kind == 9) = true := by rw [beq_iff_eq]; exact hk
     have Hmx := Lib.hid hmx
     have Hk := Lib.hid hk
     clear hmx hk
     have hm1 := hcut.out.later (Ext.refl _).drew
     have Hm1 := Lib.hid hm1
     clear hm1
     have hc1 : ¬ 9223372036854775807 < 2 + t.brand.size := by omega
     have hc2 : ¬ 9223372036854775807 < 2 + t.brand.size + 1 := by omega
     go_wp2_with fail
     go_region_held3 (fun w' => w'.cell? ⟨bm, 4, none⟩ = some (.string t.brand)) (first | exact (HS.out _ _ Hm1.out).2.2.2.2.1 | exact (HS.out _ _ hm9).2.2.2.2.1) (((go_at_call 148; refine (writeString_any wc.drew B b (.func (.func g) #[] cb) (l ++ Lib.itoa t.kind) (bm :: K) _ Hm1.out.wr Hm1.out.le (by have := Hln.out; have := Hlens.out; rw [Hmx.out] at this; simp only [ba_app_size, size_mk]; simp at this ⊢; omega)).mono ?_; rintro e w9 ⟨rfl, hw9⟩; have hm9 := Hm1.out.write hw9)))
     all_goals
      go_wp2_with fail
      go_meet
      have h := hm9
      (try simp only [ba_app, ba_mk] at h)
      rw [Hmx.out]
      exact Lib.hid h
   have nk9 := hk
   clear hk
   by_cases hk : t.kind = 11
   ·skip
    obtain hbd | hbd : t.branded = false ∨ t.branded = true := by cases t.branded <;> simp
    ·have hmx : midTx t = [32, 45] := by unfold midTx; rw [if_neg (by omega), if_pos (by omega), hbd]; rfl
     rw [hbd] at d3
     clear hbd
     have q3 : (t.kind == 3) = false := by rw [beq_eq_false_iff_ne]; omega
     have q9 : (t.kind == 9) = false := by rw [beq_eq_false_iff_ne]; omega
     have q11 : (t.kind == 11) = true := by rw [beq_iff_eq]; exact hk
     have Hmx := Lib.hid hmx
     have Hk := Lib.hid hk
     clear hmx hk
     go_wp2_with fail
     refine (writeString_any wc B b (.func (.func g) #[] cb) (l ++ Lib.itoa t.kind) (bm :: K) ⟨#[32, 45]⟩ hcut.out.wr hcut.out.le (by have e1 : (⟨#[32, 45]⟩ : ByteArray).size = 2 := rfl; have := Hln.out; have := Hlens.out; rw [Hmx.out] at this; simp at this ⊢; omega)).mono ?_
     rintro e w9 ⟨rfl, hw9⟩
     have hm9 := hcut.out.write hw9
     go_wp2_with fail
     go_meet
     rw [Hmx.out]
     exact Lib.hid hm9
    ·have hmx : midTx t = [32, 34] ++ t.brand.data.toList ++ [34] := by unfold midTx; rw [if_neg (by omega), if_pos (by omega), hbd]; rfl
     rw [hbd] at d3
     clear hbd
     have q3 : (t.kind == 3) = false := by rw [beq_eq_false_iff_ne]; omega
     have q9 : (t.kind == 9) = false := by rw [beq_eq_false_iff_ne]; omega
     have q11 : (t.kind == 11) = true := by rw [beq_iff_eq]; exact hk
     have Hmx := Lib.hid hmx
     have Hk := Lib.hid hk
     clear hmx hk
     have hm1 := hcut.out.later (Ext.refl _).drew
     have Hm1 := Lib.hid hm1
     clear hm1
     have hc1 : ¬ 9223372036854775807 < 2 + t.brand.size := by omega
     have hc2 : ¬ 9223372036854775807 < 2 + t.brand.size + 1 := by omega
     go_wp2_with fail
     go_region_held3 (fun w' => w'.cell? ⟨bm, 4, none⟩ = some (.string t.brand)) (first | exact (HS.out _ _ Hm1.out).2.2.2.2.1 | exact (HS.out _ _ hm9).2.2.2.2.1) (((go_at_call 148; refine (writeString_any wc.drew B b (.func (.func g) #[] cb) (l ++ Lib.itoa t.kind) (bm :: K) _ Hm1.out.wr Hm1.out.le (by have := Hln.out; have := Hlens.out; rw [Hmx.out] at this; simp only [ba_app_size, size_mk]; simp at this ⊢; omega)).mono ?_; rintro e w9 ⟨rfl, hw9⟩; have hm9 := Hm1.out.write hw9)))
     all_goals
      go_wp2_with fail
      go_meet
      have h := hm9
      (try simp only [ba_app, ba_mk] at h)
      rw [Hmx.out]
      exact Lib.hid h
   have nk11 := hk
   clear hk
   by_cases hk : t.kind = 10
   ·skip
    obtain hbd | hbd : t.branded = false ∨ t.branded = true := by cases t.branded <;> simp
    ·have hmx : midTx t = [32, 45] := by unfold midTx; rw [if_neg (by omega), if_pos (by omega), hbd]; rfl
     rw [hbd] at d3
     clear hbd
     have q3 : (t.kind == 3) = false := by rw [beq_eq_false_iff_ne]; omega
     have q9 : (t.kind == 9) = false := by rw [beq_eq_false_iff_ne]; omega
     have q11 : (t.kind == 11) = false := by rw [beq_eq_false_iff_ne]; omega
     have q10 : (t.kind == 10) = true := by rw [beq_iff_eq]; exact hk
     have Hmx := Lib.hid hmx
     have Hk := Lib.hid hk
     clear hmx hk
     go_wp2_with fail
     refine (writeString_any wc B b (.func (.func g) #[] cb) (l ++ Lib.itoa t.kind) (bm :: K) ⟨#[32, 45]⟩ hcut.out.wr hcut.out.le (by have e1 : (⟨#[32, 45]⟩ : ByteArray).size = 2 := rfl; have := Hln.out; have := Hlens.out; rw [Hmx.out] at this; simp at this ⊢; omega)).mono ?_
     rintro e w9 ⟨rfl, hw9⟩
     have hm9 := hcut.out.write hw9
     go_wp2_with fail
     go_meet
     rw [Hmx.out]
     exact Lib.hid hm9
    ·have hmx : midTx t = [32, 34] ++ t.brand.data.toList ++ [34] := by unfold midTx; rw [if_neg (by omega), if_pos (by omega), hbd]; rfl
     rw [hbd] at d3
     clear hbd
     have q3 : (t.kind == 3) = false := by rw [beq_eq_false_iff_ne]; omega
     have q9 : (t.kind == 9) = false := by rw [beq_eq_false_iff_ne]; omega
     have q11 : (t.kind == 11) = false := by rw [beq_eq_false_iff_ne]; omega
     have q10 : (t.kind == 10) = true := by rw [beq_iff_eq]; exact hk
     have Hmx := Lib.hid hmx
     have Hk := Lib.hid hk
     clear hmx hk
     have hm1 := hcut.out.later (Ext.refl _).drew
     have Hm1 := Lib.hid hm1
     clear hm1
     have hc1 : ¬ 9223372036854775807 < 2 + t.brand.size := by omega
     have hc2 : ¬ 9223372036854775807 < 2 + t.brand.size + 1 := by omega
     go_wp2_with fail
     go_region_held3 (fun w' => w'.cell? ⟨bm, 4, none⟩ = some (.string t.brand)) (first | exact (HS.out _ _ Hm1.out).2.2.2.2.1 | exact (HS.out _ _ hm9).2.2.2.2.1) (((go_at_call 148; refine (writeString_any wc.drew B b (.func (.func g) #[] cb) (l ++ Lib.itoa t.kind) (bm :: K) _ Hm1.out.wr Hm1.out.le (by have := Hln.out; have := Hlens.out; rw [Hmx.out] at this; simp only [ba_app_size, size_mk]; simp at this ⊢; omega)).mono ?_; rintro e w9 ⟨rfl, hw9⟩; have hm9 := Hm1.out.write hw9)))
     all_goals
      go_wp2_with fail
      go_meet
      have h := hm9
      (try simp only [ba_app, ba_mk] at h)
      rw [Hmx.out]
      exact Lib.hid h
   have nk10 := hk
   clear hk
   by_cases hk : t.kind = 12
   ·skip
    obtain hbd | hbd : t.branded = false ∨ t.branded = true := by cases t.branded <;> simp
    ·have hmx : midTx t = [32, 45] := by unfold midTx; rw [if_neg (by omega), if_pos (by omega), hbd]; rfl
     rw [hbd] at d3
     clear hbd
     have q3 : (t.kind == 3) = false := by rw [beq_eq_false_iff_ne]; omega
     have q9 : (t.kind == 9) = false := by rw [beq_eq_false_iff_ne]; omega
     have q11 : (t.kind == 11) = false := by rw [beq_eq_false_iff_ne]; omega
     have q10 : (t.kind == 10) = false := by rw [beq_eq_false_iff_ne]; omega
     have q12 : (t.kind == 12) = true := by rw [beq_iff_eq]; exact hk
     have Hmx := Lib.hid hmx
     have Hk := Lib.hid hk
     clear hmx hk
     go_wp2_with fail
     refine (writeString_any wc B b (.func (.func g) #[] cb) (l ++ Lib.itoa t.kind) (bm :: K) ⟨#[32, 45]⟩ hcut.out.wr hcut.out.le (by have e1 : (⟨#[32, 45]⟩ : ByteArray).size = 2 := rfl; have := Hln.out; have := Hlens.out; rw [Hmx.out] at this; simp at this ⊢; omega)).mono ?_
     rintro e w9 ⟨rfl, hw9⟩
     have hm9 := hcut.out.write hw9
     go_wp2_with fail
     go_meet
     rw [Hmx.out]
     exact Lib.hid hm9
    ·have hmx : midTx t = [32, 34] ++ t.brand.data.toList ++ [34] := by unfold midTx; rw [if_neg (by omega), if_pos (by omega), hbd]; rfl
     rw [hbd] at d3
     clear hbd
     have q3 : (t.kind == 3) = false := by rw [beq_eq_false_iff_ne]; omega
     have q9 : (t.kind == 9) = false := by rw [beq_eq_false_iff_ne]; omega
     have q11 : (t.kind == 11) = false := by rw [beq_eq_false_iff_ne]; omega
     have q10 : (t.kind == 10) = false := by rw [beq_eq_false_iff_ne]; omega
     have q12 : (t.kind == 12) = true := by rw [beq_iff_eq]; exact hk
     have Hmx := Lib.hid hmx
     have Hk := Lib.hid hk
     clear hmx hk
     have hm1 := hcut.out.later (Ext.refl _).drew
     have Hm1 := Lib.hid hm1
     clear hm1
     have hc1 : ¬ 9223372036854775807 < 2 + t.brand.size := by omega
     have hc2 : ¬ 9223372036854775807 < 2 + t.brand.size + 1 := by omega
     go_wp2_with fail
     go_region_held3 (fun w' => w'.cell? ⟨bm, 4, none⟩ = some (.string t.brand)) (first | exact (HS.out _ _ Hm1.out).2.2.2.2.1 | exact (HS.out _ _ hm9).2.2.2.2.1) (((go_at_call 148; refine (writeString_any wc.drew B b (.func (.func g) #[] cb) (l ++ Lib.itoa t.kind) (bm :: K) _ Hm1.out.wr Hm1.out.le (by have := Hln.out; have := Hlens.out; rw [Hmx.out] at this; simp only [ba_app_size, size_mk]; simp at this ⊢; omega)).mono ?_; rintro e w9 ⟨rfl, hw9⟩; have hm9 := Hm1.out.write hw9)))
     all_goals
      go_wp2_with fail
      go_meet
      have h := hm9
      (try simp only [ba_app, ba_mk] at h)
      rw [Hmx.out]
      exact Lib.hid h
   have nk12 := hk
   clear hk
   by_cases hk : t.kind = 13
   ·skip
    have hmx : midTx t = [32] ++ t.opaq.data.toList := by unfold midTx; rw [if_neg (by omega), if_neg (by omega), if_pos hk]
    have q3 : (t.kind == 3) = false := by rw [beq_eq_false_iff_ne]; omega
    have q9 : (t.kind == 9) = false := by rw [beq_eq_false_iff_ne]; omega
    have q11 : (t.kind == 11) = false := by rw [beq_eq_false_iff_ne]; omega
    have q10 : (t.kind == 10) = false := by rw [beq_eq_false_iff_ne]; omega
    have q12 : (t.kind == 12) = false := by rw [beq_eq_false_iff_ne]; omega
    have q13 : (t.kind == 13) = true := by rw [beq_iff_eq]; exact hk
    have Hmx := Lib.hid hmx
    have Hk := Lib.hid hk
    clear hmx hk
    have hm1 := hcut.out.later (Ext.refl _).drew
    have Hm1 := Lib.hid hm1
    clear hm1
    have hc1 : ¬ 9223372036854775807 < 1 + t.opaq.size := by omega
    go_wp2_with fail
    go_region_held3 (fun w' => w'.cell? ⟨bm, 0, none⟩ = some (.int .u8 t.kind) ∧ w'.cell? ⟨bm, 1, none⟩ = some (.int .i64 t.low) ∧ w'.cell? ⟨bm, 2, none⟩ = some (.int .i64 t.high) ∧ w'.cell? ⟨bm, 3, none⟩ = some (.bool t.branded) ∧ w'.cell? ⟨bm, 4, none⟩ = some (.string t.brand) ∧ w'.cell? ⟨bm, 5, none⟩ = some (.string t.opaq) ∧ w'.cell? ⟨bm, 6, none⟩ = some (.int .i64 t.super) ∧ w'.cell? ⟨bm, 7, none⟩ = some (.slice Ap t.parts.length cp) ∧ w'.cell? ⟨bm, 8, none⟩ = some (.slice Am t.methods.length cm) ∧ w'.cell? ⟨bm, 9, none⟩ = some (.slice Ao t.overs.length co) ∧ w'.cell? ⟨b, 2, none⟩ = some (.func (.func g) #[] cb)) (first | exact HS.out _ _ Hm1.out | exact HS.out _ _ hm9 | exact HS.out _ _ hm3 | exact HS.out _ _ hm2) (((go_at_call 148; refine (writeString_any wc.drew B b (.func (.func g) #[] cb) (l ++ Lib.itoa t.kind) (bm :: K) _ Hm1.out.wr Hm1.out.le (by have := Hln.out; have := Hlens.out; rw [Hmx.out] at this; simp only [ba_app_size, size_mk]; simp at this ⊢; omega)).mono ?_; rintro e w9 ⟨rfl, hw9⟩; have hm9 := Hm1.out.write hw9)))
    all_goals
     go_wp2_with fail
     go_meet
     have h := hm9
     (try simp only [ba_app, ba_mk] at h)
     rw [Hmx.out]
     exact Lib.hid h
   have hmx : midTx t = [] := by unfold midTx; rw [if_neg (by omega), if_neg (by omega), if_neg (by omega)]
   have q3 : (t.kind == 3) = false := by rw [beq_eq_false_iff_ne]; omega
   have q9 : (t.kind == 9) = false := by rw [beq_eq_false_iff_ne]; omega
   have q11 : (t.kind == 11) = false := by rw [beq_eq_false_iff_ne]; omega
   have q10 : (t.kind == 10) = false := by rw [beq_eq_false_iff_ne]; omega
   have q12 : (t.kind == 12) = false := by rw [beq_eq_false_iff_ne]; omega
   have q13 : (t.kind == 13) = false := by rw [beq_eq_false_iff_ne]; omega
   have Hmx := Lib.hid hmx
   have Hk := Lib.hid hk
   clear hmx hk
   go_wp2_with fail
   go_meet
   rw [Hmx.out, List.append_nil]
   exact Lib.hid hcut.out
  case rest =>
   clear d0 d1 d2 d3 d4 d5 d6 d7 d8 d9 d10
   replace hcut := Lib.hid hcut.out
   obtain ⟨d0, d1, d2, d3, d4, d5, d6, d7, d8, d9, d10⟩ := HS.out _ _ hcut.out
   go_wp2_with fail
   refine (hasSuper_any _ _).mono ?_
   rintro e w' ⟨rfl, rfl⟩
   go_upto_if 65 with fail
   go_cut [] (fun wx => Hid (MS w B b (.func (.func g) #[] cb) K bm (.cells #[.int .u8 t.kind, .int .i64 t.low, .int .i64 t.high, .bool t.branded, .string t.brand, .string t.opaq, .int .i64 t.super, .slice Ap t.parts.length cp, .slice Am t.methods.length cm, .slice Ao t.overs.length co] 42) (((l ++ Lib.itoa t.kind) ++ midTx t) ++ superTx num t) wx))
   case first =>
    cases hsup : hasSuperB t.kind
    ·skip
     have hre : superTx num t = [] := by unfold superTx; rw [hsup]; rfl
     have Hre := Lib.hid hre
     clear hre
     go_wp2_with fail
     go_meet
     rw [Hre.out, List.append_nil]
     exact Lib.hid hcut.out
    ·skip
     have hm1 := hcut.out.later (Ext.refl _).drew
     have Hm1 := Lib.hid hm1
     clear hm1
     have hre : superTx num t = [32] ++ (num t.super).data.toList := by unfold superTx; rw [hsup]; rfl
     have hsr := Hsu.out hsup
     have hns := Hns.out t.super hsr
     have Hn1 := Lib.hid (fun w' hb => Hnr.out t.super hsr w' hb)
     have hc1 : ¬ 9223372036854775807 < 1 + (num t.super).size := by omega
     have Hre := Lib.hid hre
     clear hre hsr
     go_wp2_with fail
     go_region_held3 (fun w' => w'.cell? ⟨bm, 0, none⟩ = some (.int .u8 t.kind) ∧ w'.cell? ⟨bm, 1, none⟩ = some (.int .i64 t.low) ∧ w'.cell? ⟨bm, 2, none⟩ = some (.int .i64 t.high) ∧ w'.cell? ⟨bm, 3, none⟩ = some (.bool t.branded) ∧ w'.cell? ⟨bm, 4, none⟩ = some (.string t.brand) ∧ w'.cell? ⟨bm, 5, none⟩ = some (.string t.opaq) ∧ w'.cell? ⟨bm, 6, none⟩ = some (.int .i64 t.super) ∧ w'.cell? ⟨bm, 7, none⟩ = some (.slice Ap t.parts.length cp) ∧ w'.cell? ⟨bm, 8, none⟩ = some (.slice Am t.methods.length cm) ∧ w'.cell? ⟨bm, 9, none⟩ = some (.slice Ao t.overs.length co) ∧ w'.cell? ⟨b, 2, none⟩ = some (.func (.func g) #[] cb)) (first | exact HS.out _ _ Hm1.out | exact HS.out _ _ hm9 | exact HS.out _ _ hm3 | exact HS.out _ _ hm2) (first | (go_at_call 148; refine (writeString_any w2 B b (.func (.func g) #[] cb) ((l ++ Lib.itoa t.kind) ++ midTx t) (bm :: K) _ hm2.wr hm2.le (by have := Hln.out; have := Hlens.out; rw [Hre.out] at this; simp only [ba_app_size, size_mk]; simp at this ⊢; omega)).mono ?_; rintro e w9 ⟨rfl, hw9⟩; have hm9 := hm2.write hw9) | (refine (Hn1.out _ Hm1.out.below).mono ?_; rintro e w2 ⟨rfl, hx2⟩; have hm2 := Hm1.out.later hx2))
     all_goals
      go_wp2_with fail
      go_meet
      have h := hm9
      (try simp only [ba_app, ba_mk] at h)
      rw [Hre.out]
      exact Lib.hid h
   case rest =>
    clear d0 d1 d2 d3 d4 d5 d6 d7 d8 d9 d10
    replace hcut := Lib.hid hcut.out
    obtain ⟨d0, d1, d2, d3, d4, d5, d6, d7, d8, d9, d10⟩ := HS.out _ _ hcut.out
    go_wp2_with fail
    clear d0 d1 d2 d3 d4 d5 d6 d7 d8 d9 d10
    go_loopw [81] (fun i wr => ∃ k : Nat, k ≤ t.parts.length ∧ i = .int .i64 k ∧ Hid (MS w B b (.func (.func g) #[] cb) K bm (.cells #[.int .u8 t.kind, .int .i64 t.low, .int .i64 t.high, .bool t.branded, .string t.brand, .string t.opaq, .int .i64 t.super, .slice Ap t.parts.length cp, .slice Am t.methods.length cm, .slice Ao t.overs.length co] 42) ((((l ++ Lib.itoa t.kind) ++ midTx t) ++ superTx num t) ++ (t.parts.take k).flatMap (partTx num)) wr)) (fun i _ => t.parts.length - (intOf i).toNat)
    case atStart => exact ⟨0, by omega, by simp, Lib.hid (by simpa using hcut.out)⟩
    case round =>
     clear hcut
     obtain ⟨k, hk, rfl, Hmr⟩ := hrel
     by_cases hlt : k < t.parts.length
     ·obtain ⟨b1, o1, rfl, e0, e1⟩ := Hsp.out k hlt
      have hxr := Hbel.out _ Hmr.out.below
      replace e0 := hxr.cell e0
      replace e1 := hxr.cell e1
      have hpm := List.getElem_mem hlt
      have hpr := Hpt.out _ hpm
      have hns := Hns.out _ hpr
      have hnn := Hpn.out _ hpm
      have htk := flat_take_le (partTx num) t.parts k hlt
      have Hfl := Lib.hid (flat_take_one (partTx num) t.parts k hlt)
      have hpt : partTx num t.parts[k] = [32] ++ (t.parts[k]).name.data.toList ++ [58] ++ (num (t.parts[k]).type).data.toList := rfl
      have Hn1 := Lib.hid (fun w' hb => Hnr.out (t.parts[k]).type hpr w' hb)
      generalize t.parts[k] = p at *
      have htk2 : ((t.parts.take k).flatMap (partTx num)).length + (1 + p.name.size + 1 + (num p.type).size) ≤ (t.parts.flatMap (partTx num)).length := by
       rw [hpt] at htk; simp at htk ⊢; omega
      have Htk := Lib.hid htk2
      have Hpe := Lib.hid hpt
      have hc1 : ¬ 9223372036854775807 < 1 + p.name.size := by omega
      have hc2 : ¬ 9223372036854775807 < 1 + p.name.size + 1 := by omega
      have hc3 : ¬ 9223372036854775807 < 1 + p.name.size + 1 + (num p.type).size := by omega
      have Hin := Lib.hid (Hmr.out.inner (.cells #[.string p.name, .int .i64 p.type] 95) (by rintro c f h; injection h with _ h _; cases h))
      have HPS := Lib.hid (show ∀ l' w', MS wr B b (.func (.func g) #[] cb) (bm :: K) wr.heap.size (.cells #[.string p.name, .int .i64 p.type] 95) l' w' → (w'.cell? ⟨wr.heap.size, 0, none⟩ = some (.string p.name) ∧ w'.cell? ⟨wr.heap.size, 1, none⟩ = some (.int .i64 p.type) ∧ w'.cell? ⟨b, 2, none⟩ = some (.func (.func g) #[] cb)) from fun l' w' h => ⟨heap_cell h.box 0 _ rfl, heap_cell h.box 1 _ rfl, h.num⟩)
      clear hpm hpr hxr hpt htk htk2
      go_wp2_with fail
      clear e0 e1
      generalize wr.alloc (.cells #[.string p.name, .int .i64 p.type] 95) = w1' at Hin ⊢
      generalize wr.heap.size = pb at Hin HPS ⊢
      have hm1 := Hin.out.later (Ext.refl _).drew
      have Hm1 := Lib.hid hm1
      clear hm1
      go_region_held3 (fun w' => w'.cell? ⟨pb, 0, none⟩ = some (.string p.name) ∧ w'.cell? ⟨pb, 1, none⟩ = some (.int .i64 p.type) ∧ w'.cell? ⟨b, 2, none⟩ = some (.func (.func g) #[] cb)) (first | exact HPS.out _ _ Hm1.out | exact HPS.out _ _ hm9 | exact HPS.out _ _ hm2) (first | (go_at_call 148; refine (writeString_any w2 B b (.func (.func g) #[] cb) ((((l ++ Lib.itoa t.kind) ++ midTx t) ++ superTx num t) ++ (t.parts.take k).flatMap (partTx num)) (pb :: bm :: K) _ hm2.wr hm2.le (by have a1 := Hln.out; have a2 := Hlens.out; have a3 := Htk.out; have e1 : (⟨#[32]⟩ : ByteArray).size = 1 := rfl; have e2 : (⟨#[58]⟩ : ByteArray).size = 1 := rfl; have e3 : (⟨#[61]⟩ : ByteArray).size = 1 := rfl; simp only [ba_app_size, List.length_append]; omega)).mono ?_; rintro e w9 ⟨rfl, hw9⟩; have hm9 := hm2.write hw9) | (refine (Hn1.out _ (Hmr.out.below.trans Hm1.out.below)).mono ?_; rintro e w2 ⟨rfl, hx2⟩; have hm2 := Hm1.out.later hx2))
      all_goals
       have h9 := hm9
       simp only [ba_app, ba_mk] at h9
       rw [show (⟨#[32]⟩ : ByteArray).data.toList ++ p.name.data.toList ++ (⟨#[58]⟩ : ByteArray).data.toList ++ (num p.type).data.toList = partTx num p from Hpe.out.symm, List.append_assoc, ← Hfl.out] at h9
       have H9 := Lib.hid (Hmr.out.back h9)
       clear h9 hm9 hw9 hm2 hx2
       go_wp2_with fail
       go_roundw
       case rel => exact ⟨k + 1, by omega, by go_num, H9⟩
       case measure => simp [intOf]; omega
     ·obtain rfl : k = t.parts.length := by omega
      rw [List.take_length] at Hmr
      obtain ⟨d0, d1, d2, d3, d4, d5, d6, d7, d8, d9, d10⟩ := HS.out _ _ Hmr.out
      go_wp2_with fail
      clear d0 d1 d2 d3 d4 d5 d6 d7 d8 d9 d10
      go_loopw [105] (fun i wq => ∃ k : Nat, k ≤ t.methods.length ∧ i = .int .i64 k ∧ Hid (MS w B b (.func (.func g) #[] cb) K bm (.cells #[.int .u8 t.kind, .int .i64 t.low, .int .i64 t.high, .bool t.branded, .string t.brand, .string t.opaq, .int .i64 t.super, .slice Ap t.parts.length cp, .slice Am t.methods.length cm, .slice Ao t.overs.length co] 42) (((((l ++ Lib.itoa t.kind) ++ midTx t) ++ superTx num t) ++ t.parts.flatMap (partTx num)) ++ (t.methods.take k).flatMap (methodTx num)) wq)) (fun i _ => t.methods.length - (intOf i).toNat)
      case atStart => exact ⟨0, by omega, by simp, Lib.hid (by simpa using Hmr.out)⟩
      case round =>
       clear Hmr
       obtain ⟨k, hk, rfl, Hmr⟩ := hrel
       by_cases hlt : k < t.methods.length
       ·obtain ⟨b1, o1, va, vr, rfl, hva, hvr, e0, e1, e2, e3, e4⟩ := Hsm.out k hlt
        have hxr := Hbel.out _ Hmr.out.below
        replace e0 := hxr.cell e0
        replace e1 := hxr.cell e1
        replace e2 := hxr.cell e2
        replace e3 := hxr.cell e3
        replace e4 := hxr.cell e4
        have hpm := Lib.hid (List.getElem_mem hlt)
        have htk := Lib.hid (flat_take_le (methodTx num) t.methods k hlt)
        have Hfl := Lib.hid (flat_take_one (methodTx num) t.methods k hlt)
        generalize t.methods[k] = m at *
        obtain ⟨Aa, ca, ea⟩ := hva.len
        obtain ⟨Ar, cr, er⟩ := hvr.len
        subst ea er
        have Hin := Lib.hid (Hmr.out.later ((Ext.refl wr).alloc (.cells #[.string m.name, .slice Aa m.args.length ca, .int .i64 m.result, .slice Ar m.raises.length cr, .string m.proc] 74)))
        have Hcall := Lib.hid (Hme.out _ _ m _ _ Hin.out.below hpm.out Hin.out.wr hva hvr (by have a1 := Hln.out; have a2 := Hlens.out; have a3 := htk.out; simp only [List.length_append]; omega))
        clear hxr hva hvr
        go_wp2_with fail
        refine Hcall.out.mono ?_
        rintro e w2 ⟨rfl, hw2⟩
        have h9 := Hin.out.write hw2
        rw [List.append_assoc, ← Hfl.out] at h9
        have H9 := Lib.hid h9
        clear h9 hw2 e0 e1 e2 e3 e4
        go_wp2_with fail
        go_roundw
        case rel => exact ⟨k + 1, by omega, by go_num, H9⟩
        case measure => simp [intOf]; omega
       ·obtain rfl : k = t.methods.length := by omega
        rw [List.take_length] at Hmr
        obtain ⟨d0, d1, d2, d3, d4, d5, d6, d7, d8, d9, d10⟩ := HS.out _ _ Hmr.out
        go_wp2_with fail
        clear d0 d1 d2 d3 d4 d5 d6 d7 d8 d9 d10
        go_loopw [116] (fun i wq => ∃ k : Nat, k ≤ t.overs.length ∧ i = .int .i64 k ∧ Hid (MS w B b (.func (.func g) #[] cb) K bm (.cells #[.int .u8 t.kind, .int .i64 t.low, .int .i64 t.high, .bool t.branded, .string t.brand, .string t.opaq, .int .i64 t.super, .slice Ap t.parts.length cp, .slice Am t.methods.length cm, .slice Ao t.overs.length co] 42) ((((((l ++ Lib.itoa t.kind) ++ midTx t) ++ superTx num t) ++ t.parts.flatMap (partTx num)) ++ t.methods.flatMap (methodTx num)) ++ (t.overs.take k).flatMap overTx) wq)) (fun i _ => t.overs.length - (intOf i).toNat)
        case atStart => exact ⟨0, by omega, by simp, Lib.hid (by simpa using Hmr.out)⟩
        case round =>
         clear Hmr
         obtain ⟨k, hk, rfl, Hmr⟩ := hrel
         by_cases hlt : k < t.overs.length
         ·obtain ⟨b1, o1, rfl, e0, e1⟩ := Hso.out k hlt
          have hxr := Hbel.out _ Hmr.out.below
          replace e0 := hxr.cell e0
          replace e1 := hxr.cell e1
          have hnn := Hon.out _ (List.getElem_mem hlt)
          have htk := flat_take_le overTx t.overs k hlt
          have Hfl := Lib.hid (flat_take_one overTx t.overs k hlt)
          have hpt : overTx t.overs[k] = [32] ++ (t.overs[k]).name.data.toList ++ [61] ++ (t.overs[k]).proc.data.toList := rfl
          generalize t.overs[k] = p at *
          obtain ⟨hn1, hn2⟩ := hnn
          have htk2 : ((t.overs.take k).flatMap overTx).length + (1 + p.name.size + 1 + p.proc.size) ≤ (t.overs.flatMap overTx).length := by
           rw [hpt] at htk; simp at htk ⊢; omega
          have Htk := Lib.hid htk2
          have Hpe := Lib.hid hpt
          have hc1 : ¬ 9223372036854775807 < 1 + p.name.size := by omega
          have hc2 : ¬ 9223372036854775807 < 1 + p.name.size + 1 := by omega
          have hc3 : ¬ 9223372036854775807 < 1 + p.name.size + 1 + p.proc.size := by omega
          have Hin := Lib.hid (Hmr.out.inner (.cells #[.string p.name, .string p.proc] 117) (by rintro c f h; injection h with _ h _; cases h))
          have HPS := Lib.hid (show ∀ l' w', MS wr B b (.func (.func g) #[] cb) (bm :: K) wr.heap.size (.cells #[.string p.name, .string p.proc] 117) l' w' → (w'.cell? ⟨wr.heap.size, 0, none⟩ = some (.string p.name) ∧ w'.cell? ⟨wr.heap.size, 1, none⟩ = some (.string p.proc) ∧ w'.cell? ⟨b, 2, none⟩ = some (.func (.func g) #[] cb)) from fun l' w' h => ⟨heap_cell h.box 0 _ rfl, heap_cell h.box 1 _ rfl, h.num⟩)
          clear hxr hpt htk htk2
          go_wp2_with fail
          clear e0 e1
          generalize wr.alloc (.cells #[.string p.name, .string p.proc] 117) = w1' at Hin ⊢
          generalize wr.heap.size = pb at Hin HPS ⊢
          have hm1 := Hin.out.later (Ext.refl _).drew
          have Hm1 := Lib.hid hm1
          clear hm1
          go_region_held3 (fun w' => w'.cell? ⟨pb, 0, none⟩ = some (.string p.name) ∧ w'.cell? ⟨pb, 1, none⟩ = some (.string p.proc) ∧ w'.cell? ⟨b, 2, none⟩ = some (.func (.func g) #[] cb)) (first | exact HPS.out _ _ Hm1.out | exact HPS.out _ _ hm9) (((go_at_call 148; refine (writeString_any w1'.drew B b (.func (.func g) #[] cb) ((((((l ++ Lib.itoa t.kind) ++ midTx t) ++ superTx num t) ++ t.parts.flatMap (partTx num)) ++ t.methods.flatMap (methodTx num)) ++ (t.overs.take k).flatMap overTx) (pb :: bm :: K) _ Hm1.out.wr Hm1.out.le (by have a1 := Hln.out; have a2 := Hlens.out; have a3 := Htk.out; have e1 : (⟨#[32]⟩ : ByteArray).size = 1 := rfl; have e2 : (⟨#[58]⟩ : ByteArray).size = 1 := rfl; have e3 : (⟨#[61]⟩ : ByteArray).size = 1 := rfl; simp only [ba_app_size, List.length_append]; omega)).mono ?_; rintro e w9 ⟨rfl, hw9⟩; have hm9 := Hm1.out.write hw9)))
          all_goals
           have h9 := hm9
           simp only [ba_app, ba_mk] at h9
           rw [show (⟨#[32]⟩ : ByteArray).data.toList ++ p.name.data.toList ++ (⟨#[61]⟩ : ByteArray).data.toList ++ p.proc.data.toList = overTx p from Hpe.out.symm, List.append_assoc, ← Hfl.out] at h9
           have H9 := Lib.hid (Hmr.out.back h9)
           clear h9 hm9 hw9
           go_wp2_with fail
           go_roundw
           case rel => exact ⟨k + 1, by omega, by go_num, H9⟩
           case measure => simp [intOf]; omega
         ·obtain rfl : k = t.overs.length := by omega
          rw [List.take_length] at Hmr
          go_wp2_with fail
          refine (writeString_any wr B b (.func (.func g) #[] cb) ((((((l ++ Lib.itoa t.kind) ++ midTx t) ++ superTx num t) ++ t.parts.flatMap (partTx num)) ++ t.methods.flatMap (methodTx num)) ++ t.overs.flatMap overTx) (bm :: K) ⟨#[10]⟩ Hmr.out.wr Hmr.out.le (by have a1 := Hln.out; have a2 := Hlens.out; have e1 : (⟨#[10]⟩ : ByteArray).size = 1 := rfl; simp only [List.length_append]; omega)).mono ?_
          rintro e w9 ⟨rfl, hw9⟩
          have hm9 := Hmr.out.write hw9
          go_wp2_with fail
          go_end0
          have e9 : ((((((l ++ Lib.itoa t.kind) ++ midTx t) ++ superTx num t) ++ t.parts.flatMap (partTx num)) ++ t.methods.flatMap (methodTx num)) ++ t.overs.flatMap overTx) ++ (⟨#[10]⟩ : ByteArray).data.toList = l ++ TX := by rw [Hmd.out]; simp
          rw [e9] at hm9
          exact ⟨rfl, hm9.wr.sub (fun k hk => by simp [hk]), hm9.below, hm9.keep⟩
end Go.Proofs.YtldnjnnhfeobdaaGreatDoor
