/- Parts of the proof, joined: Plain theory: classes by so many rounds, and by a look downwards, are the same classes. No program. No condition; Contract of the reference: have two lists of types the same classes? Conditions: types of the graph; Contract of the reference: classes. Conditions: a tidy, well-formed graph. -/
import Derived.Test.YtldnjnnhfeobdaaGreatDoorG02
import Derived.Test.YtldnjnnhfeobdaaGreatDoorG07
import Derived.Test.YtldnjnnhfeobdaaGreatDoorG08
import Derived.Test.YtldnjnnhfeobdaaGreatDoorG04
set_option linter.all false
set_option linter.unusedSimpArgs false
set_option linter.unusedVariables false
namespace Go.Proofs.YtldnjnnhfeobdaaGreatDoor
/-- so many looks downwards from i: what stands for the last one that p lets -/
def dnL (c : List Nat) (p : Nat → Bool) (i : Nat) : Nat → Nat
 | 0 => i
 | m + 1 => if p (i - (m + 1)) then c.getD (i - (m + 1)) 0 else dnL c p i m
theorem dnL_spec (c : List Nat) (p : Nat → Bool) (i : Nat) : ∀ m, m ≤ i → (dnL c p i m = i ∧ ∀ k, i - m ≤ k → k < i → p k = false) ∨ (∃ k, i - m ≤ k ∧ k < i ∧ p k = true ∧ dnL c p i m = c.getD k 0 ∧ ∀ j, i - m ≤ j → j < k → p j = false) := by
 intro m
 induction m with
 | zero => intro _; exact .inl ⟨rfl, fun k h1 h2 => by omega⟩
 | succ m ih =>
  intro hm
  unfold dnL
  cases hp : p (i - (m + 1)) with
  | true =>
   rw [if_pos rfl]
   exact .inr ⟨i - (m + 1), Nat.le_refl _, by omega, hp, rfl, fun j h1 h2 => by omega⟩
  | false =>
   rw [if_neg (by simp)]
   have step : ∀ j, i - (m + 1) ≤ j → j = i - (m + 1) ∨ i - m ≤ j := fun j h => by omega
   rcases ih (by omega) with ⟨h1, h2⟩ | ⟨k, h1, h2, h3, h4, h5⟩
   ·refine .inl ⟨h1, fun k h3 h4 => ?_⟩
    rcases step k h3 with rfl | h
    ·exact hp
    ·exact h2 k h h4
   ·refine .inr ⟨k, by omega, h2, h3, h4, fun j h6 h7 => ?_⟩
    rcases step j h6 with rfl | h
    ·exact hp
    ·exact h5 j h h7
theorem dnL_pick {q : Nat → Nat → Bool} {n i : Nat} (hq : EqOn n q) (hi : i < n) (p : Nat → Bool) (hp : ∀ k, k < i → p k = q i k) : dnL (buildL q i) p i i = pickL (buildL q i) (q i) i := by
 have hqi : EqOn i q := hq.le (by omega)
 rcases dnL_spec (buildL q i) p i i (Nat.le_refl _) with ⟨h1, h2⟩ | ⟨k, _, h2, h3, h4, h5⟩
 ·rw [h1, pickL_none]
  rintro j hj ⟨_, h⟩
  have := h2 j (by omega) hj
  rw [hp j hj, h] at this
  cases this
 ·have hk : q i k = true := by rw [← hp k h2]; exact h3
  obtain ⟨a1, a2, a3⟩ := buildL_least hqi k h2
  have hle : k ≤ (buildL q i).getD k 0 := by
   refine Nat.le_of_not_lt fun hlt => ?_
   have h6 := h5 _ (by omega) hlt
   rw [hp _ (by omega)] at h6
   have h7 := hq.trans i k _ hi (by omega) (by omega) hk a2
   rw [h7] at h6
   cases h6
  have he : (buildL q i).getD k 0 = k := by omega
  rw [h4, he]
  refine (pickL_find h2 he hk fun j hj hjj => ?_).symm
  have h6 := h5 j (by omega) hj
  rw [hp j (by omega), hjj.2] at h6
  cases h6
def itN (rf : Nat → List Nat) (n : Nat) : Nat → List Nat → List Nat
 | 0, c => c
 | m + 1, c => itN rf n m (stepL rf n c)
theorem itN_succ (rf : Nat → List Nat) (n : Nat) : ∀ m c, itN rf n (m + 1) c = stepL rf n (itN rf n m c)
 | 0, c => rfl
 | m + 1, c => by
  show itN rf n (m + 1) (stepL rf n c) = _
  rw [itN_succ rf n m]; rfl
theorem itN_iter (rf : Nat → List Nat) (n : Nat) : ∀ f c, itN rf n f c = iterL rf n f c
 | 0, c => rfl
 | f + 1, c => by
  show itN rf n f (stepL rf n c) = _
  by_cases h : stepL rf n c = c
  ·rw [h, iterL_stop h, itN_iter rf n f c, iterL_stop h]
  ·rw [iterL_go h, itN_iter rf n f]
theorem itN_classes {n : Nat} {ag : Nat → Nat → Bool} {rf : Nat → List Nat} (G : AbsGraph n ag rf) : itN rf n (n + 1) (buildL ag n) = classesN ag rf n := by
 rw [itN_succ, itN_iter]
 exact (classesN_facts G).2.2.2
end Go.Proofs.YtldnjnnhfeobdaaGreatDoor
/- Contract of the reference: have two lists of types the same classes? Conditions: types of the graph. -/
namespace Go.Proofs.YtldnjnnhfeobdaaGreatDoor
open Go.RowKit Go.Shelf
theorem map_getD_at (cs xs : List Nat) {j : Nat} (hj : j < xs.length) : (xs.map (cs.getD · 0))[j]? = some (cs.getD (xs.getD j 0) 0) := by
 rw [List.getElem?_map, List.getElem?_eq_getElem hj]
 simp [List.getD_eq_getElem?_getD, List.getElem?_eq_getElem hj]
theorem alike_yes {cs xs ys : List Nat} (hl : xs.length = ys.length) (h : ∀ j, j < xs.length → cs.getD (xs.getD j 0) 0 = cs.getD (ys.getD j 0) 0) : decide (xs.map (cs.getD · 0) = ys.map (cs.getD · 0)) = true := by
 refine decide_eq_true (List.ext_getElem? fun j => ?_)
 by_cases hj : j < xs.length
 ·rw [map_getD_at cs xs hj, map_getD_at cs ys (by omega), h j hj]
 ·rw [List.getElem?_eq_none (by simp; omega), List.getElem?_eq_none (by simp; omega)]
theorem alike_no {cs xs ys : List Nat} (hl : xs.length = ys.length) {j : Nat} (hj : j < xs.length) (h : cs.getD (xs.getD j 0) 0 ≠ cs.getD (ys.getD j 0) 0) : decide (xs.map (cs.getD · 0) = ys.map (cs.getD · 0)) = false := by
 refine decide_eq_false fun e => h ?_
 have e2 := congrArg (fun l => l[j]?) e
 simp only [map_getD_at cs xs hj, map_getD_at cs ys (show j < ys.length by omega)] at e2
 exact Option.some.inj e2
set_option maxRecDepth 100000 in
set_option maxHeartbeats 4000000 in
theorem ralike_any (w : World) (vc va vb : Value) (cs xs ys : List Nat) (hc : Sl intE w vc (cs.map fun (n : Nat) => (n : Int))) (ha : Sl intE w va (xs.map fun (n : Nat) => (n : Int))) (hb : Sl intE w vb (ys.map fun (n : Nat) => (n : Int)))
  (hx : ∀ x ∈ xs, x < cs.length) (hy : ∀ y ∈ ys, y < cs.length) (hcn : cs.length ≤ 1048576) (hxn : xs.length ≤ 1048576) (hyn : ys.length ≤ 1048576) :
  Calls Tryz.prog 129 #[vc, va, vb] w (Ret w (.bool (decide (xs.map (cs.getD · 0) = ys.map (cs.getD · 0))))) := by
 obtain ⟨C, cc, rfl, hsc⟩ := hc.nat
 obtain ⟨A, ca, rfl, hsa⟩ := ha.nat
 obtain ⟨B, cb, rfl, hsb⟩ := hb.nat
 have Hsc := Lib.hid hsc
 have Hsa := Lib.hid hsa
 have Hsb := Lib.hid hsb
 have Hx := Lib.hid (fun k (hk : k < xs.length) => hx _ (getD_mem hk))
 have Hy := Lib.hid (fun k (hk : k < ys.length) => hy _ (getD_mem hk))
 clear hsc hsa hsb hc ha hb hx hy
 obtain ⟨w0, rfl⟩ : ∃ w0 : World, w0 = w := ⟨_, rfl⟩
 by_cases hl : xs.length = ys.length
 ·have hln : ((xs.length : Int) != (ys.length : Int)) = false := by simp; omega
  have Hyes := Lib.hid (fun (h : ∀ j, j < xs.length → cs.getD (xs.getD j 0) 0 = cs.getD (ys.getD j 0) 0) => alike_yes hl h)
  have Hno := Lib.hid (fun (j : Nat) (hj : j < xs.length) (h : cs.getD (xs.getD j 0) 0 ≠ cs.getD (ys.getD j 0) 0) => alike_no hl hj h)
  generalize decide (xs.map (cs.getD · 0) = ys.map (cs.getD · 0)) = r at Hyes Hno ⊢
  have Hl := Lib.hid hl
  clear hl
  go_enter Tryz.func129, Tryz.ntmps129
  go_wp2_with fail
  go_loopw [7] (fun u wr => ∃ k : Nat, k ≤ xs.length ∧ u = .int .i64 k ∧ Hid (Ext w0 wr) ∧ Hid (∀ j, j < xs.length → j < k → cs.getD (xs.getD j 0) 0 = cs.getD (ys.getD j 0) 0)) (fun u _ => xs.length - (intOf u).toNat)
  case atStart => exact ⟨0, by omega, rfl, Lib.hid (Ext.refl _), Lib.hid (fun j _ h => by omega)⟩
  case round =>
   obtain ⟨k, hk, rfl, Hxr, Hall⟩ := hrel
   by_cases hlt : k < xs.length
   ·have hlt2 : k < ys.length := by have := Hl.out; omega
    obtain ⟨b1, o1, rfl, c1⟩ := Hsa.out k hlt
    obtain ⟨b2, o2, rfl, c2⟩ := Hsb.out k hlt2
    have hxl := Hx.out k hlt
    have hyl := Hy.out k hlt2
    have hno := Hno.out k hlt
    have hnext := fun (h : cs.getD (xs.getD k 0) 0 = cs.getD (ys.getD k 0) 0) j (hj : j < xs.length) (hjk : j < k + 1) => if e : j = k then (by subst e; exact h : cs.getD (xs.getD j 0) 0 = cs.getD (ys.getD j 0) 0) else Hall.out j hj (by omega)
    generalize xs.getD k 0 = x at *
    generalize ys.getD k 0 = y at *
    obtain ⟨b3, o3, rfl, c3⟩ := Hsc.out x hxl
    obtain ⟨b4, o4, e4, c4⟩ := Hsc.out y hyl
    cases e4
    replace c1 := Hxr.out.cell c1
    replace c2 := Hxr.out.cell c2
    replace c3 := Hxr.out.cell c3
    replace c4 := Hxr.out.cell c4
    have l1 := cell_lt c1
    have l2 := cell_lt c2
    have l3 := cell_lt c3
    have i0 : (0 : Int) ≤ (k : Int) := by omega
    have i1 : (k : Int) < (xs.length : Int) := by omega
    have i2 : (k : Int) < (ys.length : Int) := by omega
    have i3 : (0 : Int) ≤ (x : Int) := by omega
    have i4 : (x : Int) < (cs.length : Int) := by omega
    have i5 : (0 : Int) ≤ (y : Int) := by omega
    have i6 : (y : Int) < (cs.length : Int) := by omega
    generalize cs.getD x 0 = p at *
    generalize cs.getD y 0 = q at *
    by_cases he : p = q
    ·have Hn := Lib.hid (hnext he)
     have he2 : ((p : Int) != (q : Int)) = false := by simp; omega
     have he3 : ((p : Int) == (q : Int)) = true := by simp; omega
     clear he hno hnext
     go_wp2_with fail
     go_quiet (fail)
     go_wp2_with fail
     go_roundw
     case rel => exact ⟨k + 1, by omega, by go_num, Lib.hid (Hxr.out.drewN _), Hn⟩
     case measure => simp [intOf]; omega
    ·have Hf := Lib.hid (hno he)
     have he2 : ((p : Int) != (q : Int)) = true := by simp; omega
     have he3 : ((p : Int) == (q : Int)) = false := by simp; omega
     clear he hno hnext
     go_wp2_with fail
     go_quiet (fail)
     go_wp2_with fail
     go_ret
     rw [Hf.out]
     exact ⟨rfl, Hxr.out.drewN _⟩
   ·have i1 : ¬ (k : Int) < (xs.length : Int) := by omega
    have Hf := Lib.hid (Hyes.out (fun j hj => Hall.out j hj (by omega)))
    go_wp2_with fail
    go_ret
    rw [Hf.out]
    exact ⟨rfl, Hxr.out⟩
 ·have hln : ((xs.length : Int) != (ys.length : Int)) = true := by simp; omega
  have hf : decide (xs.map (cs.getD · 0) = ys.map (cs.getD · 0)) = false := decide_eq_false (fun e => hl (by simpa using congrArg List.length e))
  rw [hf]
  go_enter Tryz.func129, Tryz.ntmps129
  go_wp2_with fail
  go_ret
  exact ⟨rfl, Ext.refl _⟩
end Go.Proofs.YtldnjnnhfeobdaaGreatDoor
/- Contract of the reference: classes. Conditions: a tidy, well-formed graph. -/
namespace Go.Proofs.YtldnjnnhfeobdaaGreatDoor
open Go.RowKit Go.Shelf
theorem dn_step (c : List Nat) (p : Nat → Bool) {i k : Nat} (h : k < i) : dnL c p i (i - k) = if p k then c.getD k 0 else dnL c p i (i - (k + 1)) := by
 rw [show i - k = (i - (k + 1)) + 1 by omega, dnL, show i - (i - (k + 1) + 1) = k by omega]
theorem set_mid (L M : List Nat) (i v v' : Nat) (hL : L.length = i) : (L ++ [v] ++ M).set i v' = L ++ [v'] ++ M := by
 subst hL
 rw [List.append_assoc, List.set_append_right _ _ (Nat.le_refl _), Nat.sub_self]
 simp
theorem getD_mid (L M : List Nat) (i v : Nat) (hL : L.length = i) : (L ++ [v] ++ M).getD i 0 = v := by
 subst hL
 simp [List.getD_eq_getElem?_getD]
theorem getD_pre2 (L M : List Nat) (v k : Nat) (hk : k < L.length) : (L ++ [v] ++ M).getD k 0 = L.getD k 0 := by
 rw [List.append_assoc]; exact getD_pre L _ k hk
theorem IntRow.slF {F : Nat → Prop} {w : World} {b : Nat} {xs : List Nat} (h : IntRow w b xs) (hF : F b) {n : Nat} (hn : xs.length = n) : SlF F intE w (.slice (some ⟨b, 0, none⟩) n n) (xs.map fun (n : Nat) => (n : Int)) := by
 obtain ⟨A, cap, e, hs⟩ := h.sl xs.length (Nat.le_refl _)
 rw [hn] at e
 refine ⟨A, cap, e, fun i x hi => ?_⟩
 obtain ⟨b', off, cs, hA, ⟨_, hle⟩, h3, h4⟩ := hs i x hi
 injection e with e1
 rw [← e1] at hA
 injection hA with hA
 injection hA with hb ho
 subst hb ho
 exact ⟨b, 0, cs, e1.symm, ⟨hF, hle⟩, h3, h4⟩
set_option maxRecDepth 100000 in
set_option maxHeartbeats 32000000 in
theorem rclasses_any (w : World) (gv : Value) (g : Graph) (hg : Sl tyE w gv g) (hT : Tidy g) (hW : WF g) :
  Calls Tryz.prog 75 #[gv] w (RetP w (ResSl intE w ((classesG g).map fun (n : Nat) => (n : Int)))) := by
 have hn := hT.len
 have hty : ∀ i, i < g.length → TySmall (getT g i) := fun i hi => (hT.ty _ (getT_mem hi)).1
 obtain ⟨A, cap, rfl, hs⟩ := hg.ty
 have Hs := Lib.hid hs
 have Hty := Lib.hid hty
 have HW := Lib.hid hW
 have Hrl := Lib.hid (fun (i : Nat) (hi : i < g.length) => (refsN_length g i).symm ▸ (hW.fine (getT_mem hi)).refs_le)
 have Hcl := Lib.hid (show itN (refsN g) g.length (g.length + 1) (buildL (agN g) g.length) = classesG g from itN_classes hW.abs)
 have Hil := Lib.hid (show ∀ m, (itN (refsN g) g.length m (buildL (agN g) g.length)).length = g.length from fun m => by
  induction m with
  | zero => exact buildL_length _ _
  | succ m _ => rw [itN_succ]; exact buildL_length _ _)
 have hmk := fun w' => make_zeros w' g.length hn
 clear hs hty hg hT hW
 go_enter Tryz.func75, Tryz.ntmps75
 go_wp2_with fail
 have Hx1 := Lib.hid ((Ext.refl w).alloc (zeros g.length))
 have Hr1 := Lib.hid (show IntRow (w.alloc (zeros g.length)) w.heap.size (buildL (agN g) 0 ++ List.replicate (g.length - 0) 0) from heap_alloc_self _ _)
 generalize w.alloc (zeros g.length) = w1 at *
 have HBo := Lib.hid (Nat.le_refl w.heap.size)
 generalize hBo : w.heap.size = Bo at Hr1 HBo ⊢
 have HB1 := Lib.hid (show w.heap.size ≤ Bo by omega)
 clear hBo HBo
 go_loopw [4] (fun u wr => ∃ i : Nat, i ≤ g.length ∧ u = .int .i64 i ∧ Hid (Ext w wr) ∧ Hid (IntRow wr Bo (buildL (agN g) i ++ List.replicate (g.length - i) 0))) (fun u _ => g.length - (intOf u).toNat)
 case atStart => exact ⟨0, by omega, rfl, Hx1, Hr1⟩
 case round =>
  clear Hx1 Hr1
  obtain ⟨i, hi, rfl, Hx, Hr⟩ := hrel
  by_cases hlt : i < g.length
  ·have hq : i < g.length := hlt
   have i0 : (0 : Int) ≤ (i : Int) := by omega
   have i1 : (i : Int) < (g.length : Int) := by omega
   have hlen : (buildL (agN g) i ++ List.replicate (g.length - i) 0).length = g.length := by rw [List.length_append, buildL_length, List.length_replicate]; omega
   have k0 := Hr.out.cell i (by omega)
   have k1 := Hr.out.frozen i
   have k2 := Hr.out.lt
   have Hr2 : Hid (IntRow (wr.setCell ⟨Bo, i, none⟩ (.int .i64 (i : Int))) Bo (buildL (agN g) i ++ [dnL (buildL (agN g) i) (fun k => agN g k i) i (i - i)] ++ List.replicate (g.length - (i + 1)) 0)) := by
    have h := Hr.out.set i i
    rw [set_next _ i g.length i (buildL_length _ _) hlt] at h
    rw [Nat.sub_self, dnL]
    exact h
   have Hx2 := Lib.hid (Hx.out.setCell (p := ⟨Bo, i, none⟩) HB1.out (.int .i64 (i : Int)))
   generalize hL : (buildL (agN g) i ++ List.replicate (g.length - i) 0).getD i 0 = z0 at k0
   clear hlen hL
   go_wp2_with fail
   generalize wr.setCell ⟨Bo, i, none⟩ (.int .i64 (i : Int)) = w2 at *
   clear k0 k1 k2
   go_loopw [5] (fun u wr2 => ∃ kk : Nat, kk ≤ i ∧ u = .int .i64 ((kk : Int) - 1) ∧ Hid (Ext w wr2) ∧ Hid (IntRow wr2 Bo (buildL (agN g) i ++ [dnL (buildL (agN g) i) (fun k => agN g k i) i (i - kk)] ++ List.replicate (g.length - (i + 1)) 0))) (fun u _ => (intOf u + 1).toNat)
   case atStart => exact ⟨i, Nat.le_refl _, rfl, Hx2, Hr2⟩
   case round =>
    clear Hx2 Hr2 Hx Hr
    obtain ⟨wq, rfl⟩ : ∃ wq : World, wq = wr := ⟨_, rfl⟩
    obtain ⟨kk, hkk, rfl, Hx, Hr⟩ := hrel
    cases kk with
    | zero =>
     have Hr3 : Hid (IntRow wq Bo (buildL (agN g) (i + 1) ++ List.replicate (g.length - (i + 1)) 0)) := by
      have h := Hr.out
      rw [Nat.sub_zero, dnL_pick (agN_eqOn g g.length) hlt _ (fun k hk => by
       cases h1 : agN g i k with
       | true => exact (agN_eqOn g g.length).symm _ _ hlt (by omega) h1
       | false =>
        cases h2 : agN g k i with
        | false => rfl
        | true => rw [(agN_eqOn g g.length).symm _ _ (by omega) hlt h2] at h1; cases h1)] at h
      rw [buildL_snoc]
      exact h
     have hm1 : ¬ (0 : Int) ≤ ((0 : Nat) : Int) - 1 := by omega
     clear Hr
     go_wp2_with fail
     go_roundw
     case rel => exact ⟨i + 1, by omega, by go_num, Hx, Hr3⟩
     case measure => simp [intOf]; omega
    | succ k =>
     have hp : k < g.length := by omega
     have hki : k < i := by omega
     rw [show (((k + 1 : Nat) : Int) - 1) = (k : Int) by omega]
     have hds := dn_step (buildL (agN g) i) (fun k => agN g k i) hki
     have Hds := Lib.hid hds
     clear hds
     obtain ⟨gb, go, pvp, pvm, pvo, eAp, hatp, hofp⟩ := Hs.out k hp
     subst eAp
     obtain ⟨gb', go', qvp, qvm, qvo, eAq, hatq, hofq⟩ := Hs.out i hq
     cases eAq
     rw [← getT_lt hp] at hatp hofp
     rw [← getT_lt hq] at hatq hofq
     have Hagr := Lib.hid (fun w' (hx' : Ext w w') => ragree_any w' (getT g k) (getT g i) _ _ _ _ _ _ (Hty.out k hp) (Hty.out i hq) (hofp.mono hx') (hofq.mono hx'))
     have Had := Lib.hid (show agN g k i = agreeT (getT g k) (getT g i) from rfl)
     generalize getT g k = s at *
     generalize getT g i = t at *
     obtain ⟨P1, p1, e1⟩ := hofp.parts.len
     obtain ⟨P2, p2, e2⟩ := hofp.methods.len
     obtain ⟨P3, p3, e3⟩ := hofp.overs.len
     subst e1 e2 e3
     obtain ⟨Q1, q1, e1⟩ := hofq.parts.len
     obtain ⟨Q2, q2, e2⟩ := hofq.methods.len
     obtain ⟨Q3, q3, e3⟩ := hofq.overs.len
     subst e1 e2 e3
     have HatP := Lib.hid hatp
     have HatQ := Lib.hid hatq
     have ip0 : (0 : Int) ≤ (k : Int) := by omega
     have ip1 : (k : Int) < (g.length : Int) := by omega
     have iq0 : (0 : Int) ≤ (i : Int) := by omega
     have iq1 : (i : Int) < (g.length : Int) := by omega
     clear hatp hatq hofp hofq
     obtain ⟨d0, d1, d2, d3, d4, d5, d6, d7, d8, d9⟩ := HatP.out.mono (Hx.out)
     obtain ⟨f0, f1, f2, f3, f4, f5, f6, f7, f8, f9⟩ := HatQ.out.mono (Hx.out)
     have ld := cell_lt d0
     have k0 : (0 : Int) ≤ (k : Int) := by omega
     cases ha : agN g k i with
     | true =>
      rw [if_pos ha] at Hds
      rw [← Had.out, ha] at Hagr
      have hcell := Hr.out
      have hL := buildL_length (agN g) i
      clear ha
      go_wp2_with fail
      refine wp_region_X (by kernel_rfl) (by kernel_rfl) (fun w3 => Ext wq w3) ((Ext.refl _).drew) ?_
      refine X_want rfl ?_
      refine X_val (v := ?_) (fun w1 hC => ?_) ?_
      rotate_left
      ·set_option maxHeartbeats 40000 in go_simp
       (first | done | exact rfl)
      simp only [Act.put, List.setIfInBounds_toArray, List.set_cons_zero, List.set_cons_succ]
      refine X_want rfl ?_
      refine X_val (v := ?_) (fun w1 hC => ?_) ?_
      rotate_left
      ·set_option maxHeartbeats 40000 in go_simp
       (first | done | exact rfl)
      simp only [Act.put, List.setIfInBounds_toArray, List.set_cons_zero, List.set_cons_succ]
      refine X_want rfl ?_
      refine X_val (v := ?_) (fun w1 hC => ?_) ?_
      rotate_left
      ·set_option maxHeartbeats 40000 in go_simp
       (first | done | exact rfl)
      simp only [Act.put, List.setIfInBounds_toArray, List.set_cons_zero, List.set_cons_succ]
      refine X_want rfl ?_
      refine X_val (v := ?_) (fun w1 hC => ?_) ?_
      rotate_left
      ·have q_d0 := hC.cell d0
       have q_d1 := hC.cell d1
       have q_d2 := hC.cell d2
       have q_d3 := hC.cell d3
       have q_d4 := hC.cell d4
       have q_d5 := hC.cell d5
       have q_d6 := hC.cell d6
       have q_d7 := hC.cell d7
       have q_d8 := hC.cell d8
       have q_d9 := hC.cell d9
       have q_f0 := hC.cell f0
       have q_f1 := hC.cell f1
       have q_f2 := hC.cell f2
       have q_f3 := hC.cell f3
       have q_f4 := hC.cell f4
       have q_f5 := hC.cell f5
       have q_f6 := hC.cell f6
       have q_f7 := hC.cell f7
       have q_f8 := hC.cell f8
       have q_f9 := hC.cell f9
       set_option maxHeartbeats 40000 in go_simp
       (first | done | exact rfl)
      simp only [Act.put, List.setIfInBounds_toArray, List.set_cons_zero, List.set_cons_succ]
      refine X_want rfl ?_
      refine X_val (v := ?_) (fun w1 hC => ?_) ?_
      rotate_left
      ·set_option maxHeartbeats 40000 in go_simp
       (first | done | exact rfl)
      simp only [Act.put, List.setIfInBounds_toArray, List.set_cons_zero, List.set_cons_succ]
      refine X_want rfl ?_
      refine X_val (v := ?_) (fun w1 hC => ?_) ?_
      rotate_left
      ·set_option maxHeartbeats 40000 in go_simp
       (first | done | exact rfl)
      simp only [Act.put, List.setIfInBounds_toArray, List.set_cons_zero, List.set_cons_succ]
      refine X_want rfl ?_
      refine X_val (v := ?_) (fun w1 hC => ?_) ?_
      rotate_left
      ·set_option maxHeartbeats 40000 in go_simp
       (first | done | exact rfl)
      simp only [Act.put, List.setIfInBounds_toArray, List.set_cons_zero, List.set_cons_succ]
      refine X_want rfl ?_
      refine X_val (v := ?_) (fun w1 hC => ?_) ?_
      rotate_left
      ·have q_d0 := hC.cell d0
       have q_d1 := hC.cell d1
       have q_d2 := hC.cell d2
       have q_d3 := hC.cell d3
       have q_d4 := hC.cell d4
       have q_d5 := hC.cell d5
       have q_d6 := hC.cell d6
       have q_d7 := hC.cell d7
       have q_d8 := hC.cell d8
       have q_d9 := hC.cell d9
       have q_f0 := hC.cell f0
       have q_f1 := hC.cell f1
       have q_f2 := hC.cell f2
       have q_f3 := hC.cell f3
       have q_f4 := hC.cell f4
       have q_f5 := hC.cell f5
       have q_f6 := hC.cell f6
       have q_f7 := hC.cell f7
       have q_f8 := hC.cell f8
       have q_f9 := hC.cell f9
       set_option maxHeartbeats 40000 in go_simp
       (first | done | exact rfl)
      simp only [Act.put, List.setIfInBounds_toArray, List.set_cons_zero, List.set_cons_succ]
      refine X_want rfl ?_
      refine X_call (v := .bool true) (f := 41) (args := #[.agg #[.int .u8 s.kind, .int .i64 s.low, .int .i64 s.high, .bool s.branded, .string s.brand, .string s.opaq, .int .i64 s.super, .slice P1 s.parts.length p1, .slice P2 s.methods.length p2, .slice P3 s.overs.length p3], .agg #[.int .u8 t.kind, .int .i64 t.low, .int .i64 t.high, .bool t.branded, .string t.brand, .string t.opaq, .int .i64 t.super, .slice Q1 t.parts.length q1, .slice Q2 t.methods.length q2, .slice Q3 t.overs.length q3]]) (fun w1 => ?_) (fun w1 hC => (Hagr.out w1 (Hx.out.trans hC)).mono fun e w2 ⟨he, hx⟩ => ⟨he, hC.trans hx⟩) ?_
      ·go_simp
      simp only [Act.put, List.setIfInBounds_toArray, List.set_cons_zero, List.set_cons_succ]
      refine wpQuiet_nil ?_
      intro w3 hxd
      clear d0 d1 d2 d3 d4 d5 d6 d7 d8 d9 f0 f1 f2 f3 f4 f5 f6 f7 f8 f9 ld
      have Hx3 := Lib.hid (Hx.out.trans hxd)
      have Hr3 := Lib.hid (Hr.out.ext hxd)
      have hlen : (buildL (agN g) i ++ [dnL (buildL (agN g) i) (fun k => agN g k i) i (i - (k + 1))] ++ List.replicate (g.length - (i + 1)) 0).length = g.length := by simp [buildL_length]; omega
      have n0 := Hr3.out.cell k (by omega)
      have n1 := Hr3.out.cell i (by omega)
      have n2 := Hr3.out.frozen i
      have n3 := Hr3.out.lt
      rw [getD_pre2 _ _ _ k (by omega)] at n0
      rw [getD_mid _ _ i _ hL] at n1
      have Hr4 : Hid (IntRow (w3.setCell ⟨Bo, i, none⟩ (.int .i64 ((buildL (agN g) i).getD k 0 : Nat))) Bo (buildL (agN g) i ++ [dnL (buildL (agN g) i) (fun k => agN g k i) i (i - k)] ++ List.replicate (g.length - (i + 1)) 0)) := by
       have h := Hr3.out.set i ((buildL (agN g) i).getD k 0)
       rw [set_mid _ _ i _ _ hL] at h
       rw [Hds.out]
       exact h
      have Hx4 := Lib.hid (Hx3.out.setCell (p := ⟨Bo, i, none⟩) HB1.out (.int .i64 ((buildL (agN g) i).getD k 0 : Nat)))
      generalize (buildL (agN g) i).getD k 0 = zz at n0 Hr4 Hx4
      generalize dnL (buildL (agN g) i) (fun k => agN g k i) i (i - (k + 1)) = zy at n1
      clear hlen hcell
      go_wp2_with fail
      go_roundw
      case rel => exact ⟨k, by omega, rfl, Hx4, Hr4⟩
      case measure => simp [intOf]
     | false =>
      have ha2 : ¬ (fun k => agN g k i) k = true := by simpa using ha
      rw [if_neg ha2] at Hds
      rw [← Had.out, ha] at Hagr
      clear ha ha2
      go_wp2_with fail
      refine wp_region_X (by kernel_rfl) (by kernel_rfl) (fun w3 => Ext wq w3) ((Ext.refl _).drew) ?_
      refine X_want rfl ?_
      refine X_val (v := ?_) (fun w1 hC => ?_) ?_
      rotate_left
      ·set_option maxHeartbeats 40000 in go_simp
       (first | done | exact rfl)
      simp only [Act.put, List.setIfInBounds_toArray, List.set_cons_zero, List.set_cons_succ]
      refine X_want rfl ?_
      refine X_val (v := ?_) (fun w1 hC => ?_) ?_
      rotate_left
      ·set_option maxHeartbeats 40000 in go_simp
       (first | done | exact rfl)
      simp only [Act.put, List.setIfInBounds_toArray, List.set_cons_zero, List.set_cons_succ]
      refine X_want rfl ?_
      refine X_val (v := ?_) (fun w1 hC => ?_) ?_
      rotate_left
      ·set_option maxHeartbeats 40000 in go_simp
       (first | done | exact rfl)
      simp only [Act.put, List.setIfInBounds_toArray, List.set_cons_zero, List.set_cons_succ]
      refine X_want rfl ?_
      refine X_val (v := ?_) (fun w1 hC => ?_) ?_
      rotate_left
      ·have q_d0 := hC.cell d0
       have q_d1 := hC.cell d1
       have q_d2 := hC.cell d2
       have q_d3 := hC.cell d3
       have q_d4 := hC.cell d4
       have q_d5 := hC.cell d5
       have q_d6 := hC.cell d6
       have q_d7 := hC.cell d7
       have q_d8 := hC.cell d8
       have q_d9 := hC.cell d9
       have q_f0 := hC.cell f0
       have q_f1 := hC.cell f1
       have q_f2 := hC.cell f2
       have q_f3 := hC.cell f3
       have q_f4 := hC.cell f4
       have q_f5 := hC.cell f5
       have q_f6 := hC.cell f6
       have q_f7 := hC.cell f7
       have q_f8 := hC.cell f8
       have q_f9 := hC.cell f9
       set_option maxHeartbeats 40000 in go_simp
       (first | done | exact rfl)
      simp only [Act.put, List.setIfInBounds_toArray, List.set_cons_zero, List.set_cons_succ]
      refine X_want rfl ?_
      refine X_val (v := ?_) (fun w1 hC => ?_) ?_
      rotate_left
      ·set_option maxHeartbeats 40000 in go_simp
       (first | done | exact rfl)
      simp only [Act.put, List.setIfInBounds_toArray, List.set_cons_zero, List.set_cons_succ]
      refine X_want rfl ?_
      refine X_val (v := ?_) (fun w1 hC => ?_) ?_
      rotate_left
      ·set_option maxHeartbeats 40000 in go_simp
       (first | done | exact rfl)
      simp only [Act.put, List.setIfInBounds_toArray, List.set_cons_zero, List.set_cons_succ]
      refine X_want rfl ?_
      refine X_val (v := ?_) (fun w1 hC => ?_) ?_
      rotate_left
      ·set_option maxHeartbeats 40000 in go_simp
       (first | done | exact rfl)
      simp only [Act.put, List.setIfInBounds_toArray, List.set_cons_zero, List.set_cons_succ]
      refine X_want rfl ?_
      refine X_val (v := ?_) (fun w1 hC => ?_) ?_
      rotate_left
      ·have q_d0 := hC.cell d0
       have q_d1 := hC.cell d1
       have q_d2 := hC.cell d2
       have q_d3 := hC.cell d3
       have q_d4 := hC.cell d4
       have q_d5 := hC.cell d5
       have q_d6 := hC.cell d6
       have q_d7 := hC.cell d7
       have q_d8 := hC.cell d8
       have q_d9 := hC.cell d9
       have q_f0 := hC.cell f0
       have q_f1 := hC.cell f1
       have q_f2 := hC.cell f2
       have q_f3 := hC.cell f3
       have q_f4 := hC.cell f4
       have q_f5 := hC.cell f5
       have q_f6 := hC.cell f6
       have q_f7 := hC.cell f7
       have q_f8 := hC.cell f8
       have q_f9 := hC.cell f9
       set_option maxHeartbeats 40000 in go_simp
       (first | done | exact rfl)
      simp only [Act.put, List.setIfInBounds_toArray, List.set_cons_zero, List.set_cons_succ]
      refine X_want rfl ?_
      refine X_call (v := .bool false) (f := 41) (args := #[.agg #[.int .u8 s.kind, .int .i64 s.low, .int .i64 s.high, .bool s.branded, .string s.brand, .string s.opaq, .int .i64 s.super, .slice P1 s.parts.length p1, .slice P2 s.methods.length p2, .slice P3 s.overs.length p3], .agg #[.int .u8 t.kind, .int .i64 t.low, .int .i64 t.high, .bool t.branded, .string t.brand, .string t.opaq, .int .i64 t.super, .slice Q1 t.parts.length q1, .slice Q2 t.methods.length q2, .slice Q3 t.overs.length q3]]) (fun w1 => ?_) (fun w1 hC => (Hagr.out w1 (Hx.out.trans hC)).mono fun e w2 ⟨he, hx⟩ => ⟨he, hC.trans hx⟩) ?_
      ·go_simp
      simp only [Act.put, List.setIfInBounds_toArray, List.set_cons_zero, List.set_cons_succ]
      refine wpQuiet_nil ?_
      intro w3 hxd
      clear d0 d1 d2 d3 d4 d5 d6 d7 d8 d9 f0 f1 f2 f3 f4 f5 f6 f7 f8 f9 ld
      have Hx3 := Lib.hid (Hx.out.trans hxd)
      have Hr3 : Hid (IntRow w3 Bo (buildL (agN g) i ++ [dnL (buildL (agN g) i) (fun k => agN g k i) i (i - k)] ++ List.replicate (g.length - (i + 1)) 0)) := by
       rw [Hds.out]; exact Hr.out.ext hxd
      go_wp2_with fail
      go_roundw
      case rel => exact ⟨k, by omega, rfl, Hx3, Hr3⟩
      case measure => simp [intOf]
  ·have hin : i = g.length := by omega
   subst hin
   have i1 : ¬ (g.length : Int) < (g.length : Int) := by omega
   rw [Nat.sub_self, List.replicate_zero, List.append_nil] at Hr
   go_wp2_with fail
   obtain ⟨wa, rfl⟩ : ∃ wa : World, wa = wr := ⟨_, rfl⟩
   go_loopw [3, 6] (fun u3 u6 wr => ∃ m B : Nat, m ≤ g.length + 1 ∧ u6 = .int .i64 m ∧ u3 = .slice (some ⟨B, 0, none⟩) g.length g.length ∧ Hid (Ext w wr) ∧ Hid (IntRow wr B (itN (refsN g) g.length m (buildL (agN g) g.length))) ∧ Hid (w.heap.size ≤ B)) (fun _ u6 _ => g.length + 1 - (intOf u6).toNat)
   case atStart => exact ⟨0, Bo, by omega, rfl, rfl, Hx, Hr, HB1⟩
   case round =>
    clear Hx Hr HB1 hi hlt i1
    obtain ⟨m, B, hm, rfl, rfl, Hx, Hr, HB⟩ := hrel
    have Hcl2 := Lib.hid (Hil.out m)
    by_cases hmn : m ≤ g.length
    ·have m1 : (m : Int) ≤ (g.length : Int) := by omega
     have Hst := Lib.hid (itN_succ (refsN g) g.length m (buildL (agN g) g.length))
     generalize itN (refsN g) g.length m (buildL (agN g) g.length) = cs at Hr Hcl2 Hst
     go_wp2_with fail
     have Hx1 := Lib.hid (Hx.out.alloc (zeros g.length))
     have Hr1 := Lib.hid (Hr.out.ext ((Ext.refl _).alloc (zeros g.length)))
     have Hn1 := Lib.hid (show IntRow (wr.alloc (zeros g.length)) wr.heap.size (buildL (stepQ (refsN g) cs) 0 ++ List.replicate (g.length - 0) 0) from heap_alloc_self _ _)
     have Hne := Lib.hid (show B ≠ wr.heap.size from Nat.ne_of_lt Hr.out.lt)
     have HBn := Lib.hid Hx.out.size
     generalize wr.alloc (zeros g.length) = w5 at *
     generalize wr.heap.size = Bn at *
     clear Hx Hr
     obtain ⟨wb, rfl⟩ : ∃ wb : World, wb = w5 := ⟨_, rfl⟩
     go_loopw [8] (fun u wr => ∃ i : Nat, i ≤ g.length ∧ u = .int .i64 i ∧ Hid (Ext w wr) ∧ Hid (IntRow wr B cs) ∧ Hid (IntRow wr Bn (buildL (stepQ (refsN g) cs) i ++ List.replicate (g.length - i) 0))) (fun u _ => g.length - (intOf u).toNat)
     case atStart => exact ⟨0, by omega, rfl, Hx1, Hr1, Hn1⟩
     case round =>
      clear Hx1 Hr1 Hn1
      obtain ⟨i, hi, rfl, Hx, Hr, Hn⟩ := hrel
      by_cases hlt : i < g.length
      ·have hq : i < g.length := hlt
       have i0 : (0 : Int) ≤ (i : Int) := by omega
       have i1 : (i : Int) < (g.length : Int) := by omega
       have hL := buildL_length (stepQ (refsN g) cs) i
       have hlen : (buildL (stepQ (refsN g) cs) i ++ List.replicate (g.length - i) 0).length = g.length := by rw [List.length_append, buildL_length, List.length_replicate]; omega
       have k0 := Hn.out.cell i (by omega)
       have k1 := Hn.out.frozen i
       have k2 := Hn.out.lt
       have Hn2 : Hid (IntRow (wr.setCell ⟨Bn, i, none⟩ (.int .i64 (i : Int))) Bn (buildL (stepQ (refsN g) cs) i ++ [i] ++ List.replicate (g.length - (i + 1)) 0)) := by
        have h := Hn.out.set i i
        rw [set_next _ i g.length i (buildL_length _ _) hlt] at h
        exact h
       have Hr2 := Lib.hid (Hr.out.other (b' := Bn) (i := i) (.int .i64 (i : Int)) Hne.out)
       have Hx2 := Lib.hid (Hx.out.setCell (p := ⟨Bn, i, none⟩) HBn.out (.int .i64 (i : Int)))
       generalize hLz : (buildL (stepQ (refsN g) cs) i ++ List.replicate (g.length - i) 0).getD i 0 = z0 at k0
       clear hlen hLz
       go_wp2_with fail
       generalize wr.setCell ⟨Bn, i, none⟩ (.int .i64 (i : Int)) = w6 at *
       clear k0 k1 k2
       have Hnext := Lib.hid (buildL_snoc (stepQ (refsN g) cs) i)
       have HL := Lib.hid hL
       generalize hcc : buildL (stepQ (refsN g) cs) i = cc at *
       clear hcc hL
       go_loopw [9] (fun u wr => ∃ k v : Nat, k ≤ i ∧ u = .int .i64 k ∧ Hid (Ext w wr) ∧ Hid (IntRow wr B cs) ∧ Hid (IntRow wr Bn (cc ++ [v] ++ List.replicate (g.length - (i + 1)) 0)) ∧ Hid ((v = i ∧ NoneB cc (stepQ (refsN g) cs i) k) ∨ (v < i ∧ pickL cc (stepQ (refsN g) cs i) i = v))) (fun u _ => i - (intOf u).toNat)
       case atStart => exact ⟨0, i, by omega, rfl, Hx2, Hr2, Hn2, Lib.hid (.inl ⟨rfl, fun k hk => by omega⟩)⟩
       case round =>
        clear Hx2 Hr2 Hn2 Hx Hr Hn
        obtain ⟨wq, rfl⟩ : ∃ wq : World, wq = wr := ⟨_, rfl⟩
        obtain ⟨k, v, hk, rfl, Hx, Hr, Hn, Hv⟩ := hrel
        have hL := HL.out
        have hlen : (cc ++ [v] ++ List.replicate (g.length - (i + 1)) 0).length = g.length := by simp; omega
        have n1 := Hn.out.cell i (by omega)
        have n3 := Hn.out.lt
        rw [getD_mid _ _ i _ hL] at n1
        have k0 : (0 : Int) ≤ (k : Int) := by omega
        by_cases hgo : k < i ∧ v = i
        ·obtain ⟨hki, rfl⟩ := hgo
         have Hnb : Hid (NoneB cc (stepQ (refsN g) cs v) k) := by
          rcases Hv.out with h | h
          ·exact h.2
          ·exact absurd h.1 (Nat.lt_irrefl _)
         have hki2 : (k : Int) < (v : Int) := by omega
         have hvv : ((v : Int) == (v : Int)) = true := by simp
         have hp : k < g.length := by omega
         have n0 := Hn.out.cell k (by omega)
         rw [getD_pre2 _ _ _ k (by omega)] at n0
         have hcl := Hcl2.out
         have o0 := Hr.out.cell k (by omega)
         have o1 := Hr.out.cell v (by omega)
         have o3 := Hr.out.lt
         have Hstq := Lib.hid (show stepQ (refsN g) cs v k = (cs.getD k 0 == cs.getD v 0 && decide ((refsN g v).map (cs.getD · 0) = (refsN g k).map (cs.getD · 0))) from rfl)
         have Hsym := Lib.hid (show decide ((refsN g k).map (cs.getD · 0) = (refsN g v).map (cs.getD · 0)) = decide ((refsN g v).map (cs.getD · 0) = (refsN g k).map (cs.getD · 0)) from decide_eq_decide.2 ⟨fun h => h.symm, fun h => h.symm⟩)
         have Hnxt := Lib.hid (fun (h : ¬ (cc.getD k 0 = k ∧ stepQ (refsN g) cs v k = true)) => Hnb.out.next h)
         have Hpk := Lib.hid (fun (h1 : cc.getD k 0 = k) (h2 : stepQ (refsN g) cs v k = true) => pickL_eq (show k ≤ v by omega) Hnb.out (.inr ⟨h1, h2⟩))
         clear Hv hlen
         obtain ⟨gb, go, pvp, pvm, pvo, eAp, hatp, hofp⟩ := Hs.out k hp
         subst eAp
         obtain ⟨gb', go', qvp, qvm, qvo, eAq, hatq, hofq⟩ := Hs.out v hq
         cases eAq
         rw [← getT_lt hp] at hatp hofp
         rw [← getT_lt hq] at hatq hofq
         have Hrp := Lib.hid (fun w' (hx' : Ext w w') => rrefs_any w' g.length (getT g k) _ _ _ (hofp.mono hx') (HW.out.fine (getT_mem hp)))
         have Hrq := Lib.hid (fun w' (hx' : Ext w w') => rrefs_any w' g.length (getT g v) _ _ _ (hofq.mono hx') (HW.out.fine (getT_mem hq)))
         rw [refsL_nat HW.out hp] at Hrp
         rw [refsL_nat HW.out hq] at Hrq
         generalize getT g k = s at *
         generalize getT g v = t at *
         obtain ⟨P1, p1, e1⟩ := hofp.parts.len
         obtain ⟨P2, p2, e2⟩ := hofp.methods.len
         obtain ⟨P3, p3, e3⟩ := hofp.overs.len
         subst e1 e2 e3
         obtain ⟨Q1, q1, e1⟩ := hofq.parts.len
         obtain ⟨Q2, q2, e2⟩ := hofq.methods.len
         obtain ⟨Q3, q3, e3⟩ := hofq.overs.len
         subst e1 e2 e3
         have HatP := Lib.hid hatp
         have HatQ := Lib.hid hatq
         have ip0 : (0 : Int) ≤ (k : Int) := by omega
         have ip1 : (k : Int) < (g.length : Int) := by omega
         have iq0 : (0 : Int) ≤ (v : Int) := by omega
         have iq1 : (v : Int) < (g.length : Int) := by omega
         clear hatp hatq hofp hofq
         obtain ⟨d0, d1, d2, d3, d4, d5, d6, d7, d8, d9⟩ := HatP.out.mono (Hx.out)
         obtain ⟨f0, f1, f2, f3, f4, f5, f6, f7, f8, f9⟩ := HatQ.out.mono (Hx.out)
         have ld := cell_lt d0
         by_cases ca : cc.getD k 0 = k
         case neg =>
          as_aux_lemma =>
           have Hnb2 := Lib.hid (Hnxt.out (fun h => ca h.1))
           generalize cc.getD k 0 = ck at *
           have ca2 : ((ck : Int) == (k : Int)) = false := by simp; omega
           have ca3 : (ck == k) = false := by simpa using ca
           clear Hnxt Hpk
           go_wp2_with fail
           go_quiet (fail)
           go_wp2_with fail
           go_roundw
           case rel => exact ⟨k + 1, v, by omega, by go_num, Lib.hid (Hx.out.drewN _), Lib.hid (Hr.out.ext ((Ext.refl _).drewN _)), Lib.hid (Hn.out.ext ((Ext.refl _).drewN _)), Lib.hid (.inl ⟨rfl, Hnb2.out⟩)⟩
           case measure => simp [intOf]; omega
         rw [ca] at n0
         have kk2 : ((k : Int) == (k : Int)) = true := by simp
         by_cases cb : cs.getD k 0 = cs.getD v 0
         case neg =>
          as_aux_lemma =>
           have Hnb2 := Lib.hid (Hnxt.out (fun h => by have h2 := h.2; rw [Hstq.out] at h2; simp at h2; exact cb (by simpa using h2.1)))
           generalize cs.getD k 0 = ok at *
           generalize cs.getD v 0 = ov at *
           have cb2 : ((ok : Int) == (ov : Int)) = false := by simp; omega
           have cb3 : (ok == ov) = false := by simpa using cb
           clear ca Hnxt Hpk
           go_wp2_with fail
           go_quiet (fail)
           go_wp2_with fail
           go_roundw
           case rel => exact ⟨k + 1, v, by omega, by go_num, Lib.hid (Hx.out.drewN _), Lib.hid (Hr.out.ext ((Ext.refl _).drewN _)), Lib.hid (Hn.out.ext ((Ext.refl _).drewN _)), Lib.hid (.inl ⟨rfl, Hnb2.out⟩)⟩
           case measure => simp [intOf]; omega
         rw [cb] at o0
         have cb2 : (((cs.getD v 0 : Nat) : Int) == ((cs.getD v 0 : Nat) : Int)) = true := by simp
         have hstq2 : stepQ (refsN g) cs v k = decide ((refsN g v).map (cs.getD · 0) = (refsN g k).map (cs.getD · 0)) := by
          rw [Hstq.out, cb, beq_self_eq_true, Bool.true_and]
         have Hstq2 := Lib.hid hstq2
         clear hstq2
         have Hrow := Lib.hid (show ∀ w', Ext wq w' → Sl intE w' (.slice (some ⟨B, 0, none⟩) g.length g.length) (cs.map fun (n : Nat) => (n : Int)) from fun w' h => ((Hr.out.ext h).slF (F := Any) trivial hcl).any)
         have Hrp2 := Lib.hid (fun x (hx : x ∈ refsN g k) => (hcl.symm ▸ HW.out.abs.rng k hp x hx : x < cs.length))
         have Hrq2 := Lib.hid (fun x (hx : x ∈ refsN g v) => (hcl.symm ▸ HW.out.abs.rng v hq x hx : x < cs.length))
         have HrlP := Lib.hid (Hrl.out k hp)
         have HrlQ := Lib.hid (Hrl.out v hq)
         have hcl2 : cs.length ≤ 1048576 := by omega
         have Hcl3 := Lib.hid hcl2
         have Hca := Lib.hid ca
         generalize cs.getD v 0 = ov at *
         clear ca cb hcl hcl2 Hstq
         cases hr : decide ((refsN g v).map (cs.getD · 0) = (refsN g k).map (cs.getD · 0))
         case false =>
          have Hnb2 := Lib.hid (Hnxt.out (fun h => by have h2 := h.2; rw [Hstq2.out, hr] at h2; cases h2))
          clear Hnxt Hpk
          have Hrr := Lib.hid (Hsym.out.trans hr)
          clear hr
          have HS := Lib.hid (show ∀ w' : World, Ext wq w' → (w'.cell? ⟨gb, go + k * 10, none⟩ = some (.int .u8 s.kind) ∧ w'.cell? ⟨gb, go + k * 10 + 1, none⟩ = some (.int .i64 s.low) ∧ w'.cell? ⟨gb, go + k * 10 + 2, none⟩ = some (.int .i64 s.high) ∧ w'.cell? ⟨gb, go + k * 10 + 3, none⟩ = some (.bool s.branded) ∧ w'.cell? ⟨gb, go + k * 10 + 4, none⟩ = some (.string s.brand) ∧ w'.cell? ⟨gb, go + k * 10 + 5, none⟩ = some (.string s.opaq) ∧ w'.cell? ⟨gb, go + k * 10 + 6, none⟩ = some (.int .i64 s.super) ∧ w'.cell? ⟨gb, go + k * 10 + 7, none⟩ = some (.slice P1 s.parts.length p1) ∧ w'.cell? ⟨gb, go + k * 10 + 8, none⟩ = some (.slice P2 s.methods.length p2) ∧ w'.cell? ⟨gb, go + k * 10 + 9, none⟩ = some (.slice P3 s.overs.length p3) ∧ w'.cell? ⟨gb, go + v * 10, none⟩ = some (.int .u8 t.kind) ∧ w'.cell? ⟨gb, go + v * 10 + 1, none⟩ = some (.int .i64 t.low) ∧ w'.cell? ⟨gb, go + v * 10 + 2, none⟩ = some (.int .i64 t.high) ∧ w'.cell? ⟨gb, go + v * 10 + 3, none⟩ = some (.bool t.branded) ∧ w'.cell? ⟨gb, go + v * 10 + 4, none⟩ = some (.string t.brand) ∧ w'.cell? ⟨gb, go + v * 10 + 5, none⟩ = some (.string t.opaq) ∧ w'.cell? ⟨gb, go + v * 10 + 6, none⟩ = some (.int .i64 t.super) ∧ w'.cell? ⟨gb, go + v * 10 + 7, none⟩ = some (.slice Q1 t.parts.length q1) ∧ w'.cell? ⟨gb, go + v * 10 + 8, none⟩ = some (.slice Q2 t.methods.length q2) ∧ w'.cell? ⟨gb, go + v * 10 + 9, none⟩ = some (.slice Q3 t.overs.length q3) ∧ w'.cell? ⟨Bn, k, none⟩ = some (.int .i64 (k : Int)) ∧ w'.cell? ⟨B, k, none⟩ = some (.int .i64 (ov : Int)) ∧ w'.cell? ⟨B, v, none⟩ = some (.int .i64 (ov : Int))) from fun w' h => by
           obtain ⟨d0, d1, d2, d3, d4, d5, d6, d7, d8, d9⟩ := HatP.out.mono (Hx.out.trans h)
           obtain ⟨f0, f1, f2, f3, f4, f5, f6, f7, f8, f9⟩ := HatQ.out.mono (Hx.out.trans h)
           exact ⟨d0, d1, d2, d3, d4, d5, d6, d7, d8, d9, f0, f1, f2, f3, f4, f5, f6, f7, f8, f9, h.cell n0, h.cell o0, h.cell o1⟩)
          clear d0 d1 d2 d3 d4 d5 d6 d7 d8 d9 f0 f1 f2 f3 f4 f5 f6 f7 f8 f9
          have tok1 : True := trivial
          go_wp2_with fail
          go_region_held3 (fun w' => w'.cell? ⟨gb, go + k * 10, none⟩ = some (.int .u8 s.kind) ∧ w'.cell? ⟨gb, go + k * 10 + 1, none⟩ = some (.int .i64 s.low) ∧ w'.cell? ⟨gb, go + k * 10 + 2, none⟩ = some (.int .i64 s.high) ∧ w'.cell? ⟨gb, go + k * 10 + 3, none⟩ = some (.bool s.branded) ∧ w'.cell? ⟨gb, go + k * 10 + 4, none⟩ = some (.string s.brand) ∧ w'.cell? ⟨gb, go + k * 10 + 5, none⟩ = some (.string s.opaq) ∧ w'.cell? ⟨gb, go + k * 10 + 6, none⟩ = some (.int .i64 s.super) ∧ w'.cell? ⟨gb, go + k * 10 + 7, none⟩ = some (.slice P1 s.parts.length p1) ∧ w'.cell? ⟨gb, go + k * 10 + 8, none⟩ = some (.slice P2 s.methods.length p2) ∧ w'.cell? ⟨gb, go + k * 10 + 9, none⟩ = some (.slice P3 s.overs.length p3) ∧ w'.cell? ⟨gb, go + v * 10, none⟩ = some (.int .u8 t.kind) ∧ w'.cell? ⟨gb, go + v * 10 + 1, none⟩ = some (.int .i64 t.low) ∧ w'.cell? ⟨gb, go + v * 10 + 2, none⟩ = some (.int .i64 t.high) ∧ w'.cell? ⟨gb, go + v * 10 + 3, none⟩ = some (.bool t.branded) ∧ w'.cell? ⟨gb, go + v * 10 + 4, none⟩ = some (.string t.brand) ∧ w'.cell? ⟨gb, go + v * 10 + 5, none⟩ = some (.string t.opaq) ∧ w'.cell? ⟨gb, go + v * 10 + 6, none⟩ = some (.int .i64 t.super) ∧ w'.cell? ⟨gb, go + v * 10 + 7, none⟩ = some (.slice Q1 t.parts.length q1) ∧ w'.cell? ⟨gb, go + v * 10 + 8, none⟩ = some (.slice Q2 t.methods.length q2) ∧ w'.cell? ⟨gb, go + v * 10 + 9, none⟩ = some (.slice Q3 t.overs.length q3) ∧ w'.cell? ⟨Bn, k, none⟩ = some (.int .i64 (k : Int)) ∧ w'.cell? ⟨B, k, none⟩ = some (.int .i64 (ov : Int)) ∧ w'.cell? ⟨B, v, none⟩ = some (.int .i64 (ov : Int))) (first | exact HS.out _ (Ext.refl _).drew | exact HS.out _ hxd | exact HS.out _ hxb | exact HS.out _ hxa) (first | (go_at_call 40; have _t := tok1; refine (Hrp.out _ (Hx.out.trans (Ext.refl _).drew)).mono ?_; clear tok1; rintro e wa ⟨va, rfl, hva, hxa0⟩; have hxa := (Ext.refl wq).drew.trans hxa0; obtain ⟨Aa, ca, ea⟩ := hva.any.len; rw [List.length_map] at ea; subst ea) | (go_at_call 40; refine (Hrq.out _ (Hx.out.trans hxa)).mono ?_; rintro e wv ⟨vb, rfl, hvb, hxb0⟩; have hxb := hxa.trans hxb0; obtain ⟨Ab, cbb, eb⟩ := hvb.any.len; rw [List.length_map] at eb; subst eb) | (go_at_call 129; refine (ralike_any wv _ _ _ cs (refsN g k) (refsN g v) (Hrow.out _ hxb) (hva.any.mono hxb0) hvb.any Hrp2.out Hrq2.out Hcl3.out (by have := HrlP.out; omega) (by have := HrlQ.out; omega)).mono ?_; rintro e wd ⟨rfl, hxd0⟩; have hxd := hxb.trans hxd0; rw [Hrr.out]))
          all_goals
           have Hx3 := Lib.hid (Hx.out.trans hxd)
           have Hr3 := Lib.hid (Hr.out.ext hxd)
           have Hn3 := Lib.hid (Hn.out.ext hxd)
           clear hva hvb hxa hxb hxa0 hxb0 hxd0 hxd n0 o0 o1
           go_wp2_with fail
           go_roundw
           case rel => exact ⟨k + 1, v, by omega, by go_num, Hx3, Hr3, Hn3, Lib.hid (.inl ⟨rfl, Hnb2.out⟩)⟩
           case measure => simp [intOf]; omega
         case true =>
          have Hpk2 := Lib.hid (Hpk.out Hca.out (Hstq2.out.trans hr))
          clear Hnxt Hpk
          have Hrr := Lib.hid (Hsym.out.trans hr)
          clear hr
          have HS := Lib.hid (show ∀ w' : World, Ext wq w' → (w'.cell? ⟨gb, go + k * 10, none⟩ = some (.int .u8 s.kind) ∧ w'.cell? ⟨gb, go + k * 10 + 1, none⟩ = some (.int .i64 s.low) ∧ w'.cell? ⟨gb, go + k * 10 + 2, none⟩ = some (.int .i64 s.high) ∧ w'.cell? ⟨gb, go + k * 10 + 3, none⟩ = some (.bool s.branded) ∧ w'.cell? ⟨gb, go + k * 10 + 4, none⟩ = some (.string s.brand) ∧ w'.cell? ⟨gb, go + k * 10 + 5, none⟩ = some (.string s.opaq) ∧ w'.cell? ⟨gb, go + k * 10 + 6, none⟩ = some (.int .i64 s.super) ∧ w'.cell? ⟨gb, go + k * 10 + 7, none⟩ = some (.slice P1 s.parts.length p1) ∧ w'.cell? ⟨gb, go + k * 10 + 8, none⟩ = some (.slice P2 s.methods.length p2) ∧ w'.cell? ⟨gb, go + k * 10 + 9, none⟩ = some (.slice P3 s.overs.length p3) ∧ w'.cell? ⟨gb, go + v * 10, none⟩ = some (.int .u8 t.kind) ∧ w'.cell? ⟨gb, go + v * 10 + 1, none⟩ = some (.int .i64 t.low) ∧ w'.cell? ⟨gb, go + v * 10 + 2, none⟩ = some (.int .i64 t.high) ∧ w'.cell? ⟨gb, go + v * 10 + 3, none⟩ = some (.bool t.branded) ∧ w'.cell? ⟨gb, go + v * 10 + 4, none⟩ = some (.string t.brand) ∧ w'.cell? ⟨gb, go + v * 10 + 5, none⟩ = some (.string t.opaq) ∧ w'.cell? ⟨gb, go + v * 10 + 6, none⟩ = some (.int .i64 t.super) ∧ w'.cell? ⟨gb, go + v * 10 + 7, none⟩ = some (.slice Q1 t.parts.length q1) ∧ w'.cell? ⟨gb, go + v * 10 + 8, none⟩ = some (.slice Q2 t.methods.length q2) ∧ w'.cell? ⟨gb, go + v * 10 + 9, none⟩ = some (.slice Q3 t.overs.length q3) ∧ w'.cell? ⟨Bn, k, none⟩ = some (.int .i64 (k : Int)) ∧ w'.cell? ⟨B, k, none⟩ = some (.int .i64 (ov : Int)) ∧ w'.cell? ⟨B, v, none⟩ = some (.int .i64 (ov : Int))) from fun w' h => by
           obtain ⟨d0, d1, d2, d3, d4, d5, d6, d7, d8, d9⟩ := HatP.out.mono (Hx.out.trans h)
           obtain ⟨f0, f1, f2, f3, f4, f5, f6, f7, f8, f9⟩ := HatQ.out.mono (Hx.out.trans h)
           exact ⟨d0, d1, d2, d3, d4, d5, d6, d7, d8, d9, f0, f1, f2, f3, f4, f5, f6, f7, f8, f9, h.cell n0, h.cell o0, h.cell o1⟩)
          clear d0 d1 d2 d3 d4 d5 d6 d7 d8 d9 f0 f1 f2 f3 f4 f5 f6 f7 f8 f9
          have tok1 : True := trivial
          go_wp2_with fail
          go_region_held3 (fun w' => w'.cell? ⟨gb, go + k * 10, none⟩ = some (.int .u8 s.kind) ∧ w'.cell? ⟨gb, go + k * 10 + 1, none⟩ = some (.int .i64 s.low) ∧ w'.cell? ⟨gb, go + k * 10 + 2, none⟩ = some (.int .i64 s.high) ∧ w'.cell? ⟨gb, go + k * 10 + 3, none⟩ = some (.bool s.branded) ∧ w'.cell? ⟨gb, go + k * 10 + 4, none⟩ = some (.string s.brand) ∧ w'.cell? ⟨gb, go + k * 10 + 5, none⟩ = some (.string s.opaq) ∧ w'.cell? ⟨gb, go + k * 10 + 6, none⟩ = some (.int .i64 s.super) ∧ w'.cell? ⟨gb, go + k * 10 + 7, none⟩ = some (.slice P1 s.parts.length p1) ∧ w'.cell? ⟨gb, go + k * 10 + 8, none⟩ = some (.slice P2 s.methods.length p2) ∧ w'.cell? ⟨gb, go + k * 10 + 9, none⟩ = some (.slice P3 s.overs.length p3) ∧ w'.cell? ⟨gb, go + v * 10, none⟩ = some (.int .u8 t.kind) ∧ w'.cell? ⟨gb, go + v * 10 + 1, none⟩ = some (.int .i64 t.low) ∧ w'.cell? ⟨gb, go + v * 10 + 2, none⟩ = some (.int .i64 t.high) ∧ w'.cell? ⟨gb, go + v * 10 + 3, none⟩ = some (.bool t.branded) ∧ w'.cell? ⟨gb, go + v * 10 + 4, none⟩ = some (.string t.brand) ∧ w'.cell? ⟨gb, go + v * 10 + 5, none⟩ = some (.string t.opaq) ∧ w'.cell? ⟨gb, go + v * 10 + 6, none⟩ = some (.int .i64 t.super) ∧ w'.cell? ⟨gb, go + v * 10 + 7, none⟩ = some (.slice Q1 t.parts.length q1) ∧ w'.cell? ⟨gb, go + v * 10 + 8, none⟩ = some (.slice Q2 t.methods.length q2) ∧ w'.cell? ⟨gb, go + v * 10 + 9, none⟩ = some (.slice Q3 t.overs.length q3) ∧ w'.cell? ⟨Bn, k, none⟩ = some (.int .i64 (k : Int)) ∧ w'.cell? ⟨B, k, none⟩ = some (.int .i64 (ov : Int)) ∧ w'.cell? ⟨B, v, none⟩ = some (.int .i64 (ov : Int))) (first | exact HS.out _ (Ext.refl _).drew | exact HS.out _ hxd | exact HS.out _ hxb | exact HS.out _ hxa) (first | (go_at_call 40; have _t := tok1; refine (Hrp.out _ (Hx.out.trans (Ext.refl _).drew)).mono ?_; clear tok1; rintro e wa ⟨va, rfl, hva, hxa0⟩; have hxa := (Ext.refl wq).drew.trans hxa0; obtain ⟨Aa, ca, ea⟩ := hva.any.len; rw [List.length_map] at ea; subst ea) | (go_at_call 40; refine (Hrq.out _ (Hx.out.trans hxa)).mono ?_; rintro e wv ⟨vb, rfl, hvb, hxb0⟩; have hxb := hxa.trans hxb0; obtain ⟨Ab, cbb, eb⟩ := hvb.any.len; rw [List.length_map] at eb; subst eb) | (go_at_call 129; refine (ralike_any wv _ _ _ cs (refsN g k) (refsN g v) (Hrow.out _ hxb) (hva.any.mono hxb0) hvb.any Hrp2.out Hrq2.out Hcl3.out (by have := HrlP.out; omega) (by have := HrlQ.out; omega)).mono ?_; rintro e wd ⟨rfl, hxd0⟩; have hxd := hxb.trans hxd0; rw [Hrr.out]))
          all_goals
           have Hx3 := Lib.hid (Hx.out.trans hxd)
           have Hr3 := Lib.hid (Hr.out.ext hxd)
           have Hn3 := Lib.hid (Hn.out.ext hxd)
           clear hva hvb hxa hxb hxa0 hxb0 hxd0 hxd n0 o0 o1
           have hlen2 : (cc ++ [v] ++ List.replicate (g.length - (v + 1)) 0).length = g.length := by simp; omega
           have m1' := Hn3.out.cell v (by omega)
           have m2' := Hn3.out.frozen v
           have m3' := Hn3.out.lt
           rw [getD_mid _ _ v _ HL.out] at m1'
           have Hn4 : Hid (IntRow (wd.setCell ⟨Bn, v, none⟩ (.int .i64 (k : Int))) Bn (cc ++ [k] ++ List.replicate (g.length - (v + 1)) 0)) := by
            have h := Hn3.out.set v k
            rw [set_mid _ _ v _ _ HL.out] at h
            exact h
           have Hr4 := Lib.hid (Hr3.out.other (b' := Bn) (i := v) (.int .i64 (k : Int)) Hne.out)
           have Hx4 := Lib.hid (Hx3.out.setCell (p := ⟨Bn, v, none⟩) HBn.out (.int .i64 (k : Int)))
           clear hlen2
           go_wp2_with fail
           go_roundw
           case rel => exact ⟨k + 1, k, by omega, by go_num, Hx4, Hr4, Hn4, Lib.hid (.inr ⟨hki, Hpk2.out⟩)⟩
           case measure => simp [intOf]; omega
        ·have Hpick : Hid (pickL cc (stepQ (refsN g) cs i) i = v) := by
          rcases Hv.out with ⟨h1, h2⟩ | h
          ·have hki : k = i := by
            refine Nat.le_antisymm hk (Nat.le_of_not_lt fun h => hgo ⟨h, h1⟩)
           rw [h1]
           exact pickL_none (hki ▸ h2)
          ·exact h.2
         have Hn5 : Hid (IntRow wq Bn (buildL (stepQ (refsN g) cs) (i + 1) ++ List.replicate (g.length - (i + 1)) 0)) := by
          rw [Hnext.out, Hpick.out]; exact Hn.out
         clear Hpick Hv hlen
         by_cases hki : k < i
         ·have hki2 : (k : Int) < (i : Int) := by omega
          have hvi : ((v : Int) == (i : Int)) = false := by
           rw [beq_eq_false_iff_ne]
           intro h
           exact hgo ⟨hki, by omega⟩
          have hvi2 : ¬ v = i := fun h => hgo ⟨hki, h⟩
          have hvi3 : (v == i) = false := by simpa using hvi2
          clear hgo
          go_wp2_with fail
          go_roundw
          case rel => exact ⟨i + 1, by omega, by go_num, Hx, Hr, Hn5⟩
          case measure => simp [intOf]; omega
         ·have hki2 : ¬ (k : Int) < (i : Int) := by omega
          clear hgo
          go_wp2_with fail
          go_roundw
          case rel => exact ⟨i + 1, by omega, by go_num, Hx, Hr, Hn5⟩
          case measure => simp [intOf]; omega
      ·have hin : i = g.length := by omega
       subst hin
       have i1 : ¬ (g.length : Int) < (g.length : Int) := by omega
       have Hr6 : Hid (IntRow wr Bn (itN (refsN g) g.length (m + 1) (buildL (agN g) g.length))) := by
        have h := Hn.out
        rw [Nat.sub_self, List.replicate_zero, List.append_nil] at h
        rw [Hst.out]
        exact h
       clear Hn
       go_wp2_with fail
       go_roundw
       case rel => exact ⟨m + 1, Bn, by omega, by go_num, rfl, Hx, Hr6, HBn⟩
       case measure => simp [intOf]; omega
    ·have hm1 : m = g.length + 1 := by omega
     subst hm1
     have m1 : ¬ ((g.length + 1 : Nat) : Int) ≤ (g.length : Int) := by omega
     have Hr7 := Lib.hid (show SlF (New w) intE wr (.slice (some ⟨B, 0, none⟩) g.length g.length) ((classesG g).map fun (n : Nat) => (n : Int)) by
      rw [← Hcl.out]
      exact Hr.out.slF HB.out Hcl2.out)
     clear Hr
     go_wp2_with fail
     go_ret
     exact ⟨_, rfl, Hr7.out, Hx.out⟩
end Go.Proofs.YtldnjnnhfeobdaaGreatDoor
