/- Plain law: types in another order, a type put behind all others again, merged types: texts and what is the same are what they were. No condition. -/
import Derived.Test.YtldnjnnhfeobdaaGreatDoorG08
namespace Go.Proofs.YtldnjnnhfeobdaaGreatDoor
set_option linter.all false
set_option linter.unusedSimpArgs false
set_option linter.unusedVariables false
open Go.RowKit

theorem turnT_same {f : Int → Int} {t : Ty} (h : ∀ r ∈ refsL t, f r = r) : turnT f t = t := by
  have hs : (if hasSuperB t.kind = true then f t.super else t.super) = t.super := by
    split
    · rename_i hs; exact h _ (refs_super hs)
    · rfl
  have hp : t.parts.map (turnP f) = t.parts := by
    have : ∀ l : List Part, (∀ p ∈ l, f p.type = p.type) → l.map (turnP f) = l := by
      intro l
      induction l with
      | nil => intro _; rfl
      | cons p l ih => intro hl; rw [List.map_cons, ih (fun p hp => hl p (by simp [hp]))]; unfold turnP; rw [hl p (by simp)]
    exact this _ fun p hp => h _ (refs_part hp)
  have hm : t.methods.map (turnM f) = t.methods := by
    have : ∀ l : List Method, (∀ m ∈ l, ∀ r ∈ refsM m, f r = r) → l.map (turnM f) = l := by
      intro l
      induction l with
      | nil => intro _; rfl
      | cons m l ih =>
        intro hl
        rw [List.map_cons, ih (fun p hp => hl p (by simp [hp]))]
        have hm := hl m (by simp)
        have ha : m.args.map f = m.args := by
          have : ∀ l : List Int, (∀ r ∈ l, f r = r) → l.map f = l := by
            intro l
            induction l with
            | nil => intro _; rfl
            | cons r l ih => intro hl; rw [List.map_cons, ih (fun p hp => hl p (by simp [hp])), hl r (by simp)]
          exact this _ fun r hr => hm r (by unfold refsM; simp [hr])
        have hr : (if 0 ≤ m.result then f m.result else m.result) = m.result := by
          split
          · rename_i h0; exact hm _ (by unfold refsM; simp [h0])
          · rfl
        unfold turnM
        rw [ha, hr]
    exact this _ fun m hm r hr => h _ (refs_meth hm hr)
  unfold turnT
  rw [hs, hp, hm]
theorem same_beside {g h : Graph} (hg : WF g) (hh : WF h) {R : Nat → Nat → Prop} (B : Beside h g R) {j i j' i' : Nat} (h1 : R j i) (h2 : R j' i') : sameG h j j' = sameG g i i' := by
  unfold sameG
  rw [Bool.eq_iff_iff, decide_eq_true_iff, decide_eq_true_iff]
  exact beside_cls hh hg B j i j' i' h1 h2
theorem getT_of {h : Graph} {j : Nat} {t : Ty} (e : h[j]? = some t) : getT h j = t := by
  unfold getT
  rw [List.getD_eq_getElem?_getD, e]; rfl
/-! ### another order -/
def shiftF (n k : Nat) (x : Int) : Int := ((x.toNat + k) % n : Nat)
theorem shift_inj {n k i j : Nat} (hi : i < n) (hj : j < n) (h : (i + k) % n = (j + k) % n) : i = j := by
  have h1 := Nat.div_add_mod (i + k) n
  have h2 := Nat.div_add_mod (j + k) n
  rw [h] at h1
  have h3 : n * ((i + k) / n) + (j + k) = n * ((j + k) / n) + (i + k) := by omega
  by_cases e : (i + k) / n = (j + k) / n
  · rw [e] at h3; omega
  · exfalso
    rcases Nat.lt_or_gt_of_ne e with e | e
    · have := Nat.mul_le_mul_left n (show (i + k) / n + 1 ≤ (j + k) / n from e)
      rw [Nat.mul_add] at this
      omega
    · have := Nat.mul_le_mul_left n (show (j + k) / n + 1 ≤ (i + k) / n from e)
      rw [Nat.mul_add] at this
      omega
structure Shifted (g h : Graph) (k : Nat) : Prop where
  len : h.length = g.length
  at_ : ∀ i, i < g.length → h[(i + k) % g.length]? = some (turnT (shiftF g.length k) (getT g i))
theorem shift_facts {g h : Graph} {k : Nat} (hg : WF g) (S : Shifted g h k) : WF h ∧ ∀ i j, i < g.length → j < g.length →
    textG h ((i + k) % g.length) = textG g i ∧ sameG h ((i + k) % g.length) ((j + k) % g.length) = sameG g i j := by
  have hlt : ∀ i, i < g.length → (i + k) % g.length < g.length := fun i hi => Nat.mod_lt _ (by omega)
  have hrefs : ∀ i, i < g.length → ∀ r ∈ refsL (getT g i), 0 ≤ r ∧ r < g.length := fun i hi => (hg.fine (getT_mem hi)).refs
  have B : Beside h g (fun j i => i < g.length ∧ j = (i + k) % g.length) := by
    refine beside_mk hg (fun j i hR => ⟨?_, hR.1⟩) fun j i hR => ⟨shiftF g.length k, ?_, fun r hr => ⟨?_, ?_, ?_⟩⟩
    · rw [hR.2, S.len]; exact hlt i hR.1
    · rw [hR.2]; exact getT_of (S.at_ i hR.1)
    · unfold shiftF; omega
    · have := hrefs i hR.1 r hr; omega
    · unfold shiftF; rw [Int.toNat_natCast]
  have hW : WF h := by
    refine wf_beside hg (by rw [S.len]; exact hg.len) B fun j hj => ?_
    rw [S.len] at hj
    -- the type that was put to the place j
    have hsur : ∃ i, i < g.length ∧ j = (i + k) % g.length := by
      refine Classical.byContradiction fun hc => ?_
      have hnd : ((List.range g.length).map fun i => (i + k) % g.length).Nodup := by
        rw [List.nodup_iff_pairwise_ne, List.pairwise_map]
        refine List.Pairwise.imp_of_mem ?_ (List.pairwise_lt_range (n := g.length))
        intro p q hp hq hpq he
        rw [List.mem_range] at hp hq
        have := shift_inj hp hq he
        omega
      have := nodup_length_le (s := j :: (List.range g.length).map fun i => (i + k) % g.length) (l := List.range g.length) (by
        rw [List.nodup_cons]
        refine ⟨fun hm => ?_, hnd⟩
        obtain ⟨i, hi, he⟩ := List.mem_map.1 hm
        rw [List.mem_range] at hi
        exact hc ⟨i, hi, he.symm⟩) (fun x hx => by
        rw [List.mem_range]
        rcases List.mem_cons.1 hx with rfl | hx
        · exact hj
        · obtain ⟨i, hi, rfl⟩ := List.mem_map.1 hx
          rw [List.mem_range] at hi
          exact hlt i hi)
      simp at this
      omega
    obtain ⟨i, hi, rfl⟩ := hsur
    refine ⟨i, shiftF g.length k, ⟨hi, rfl⟩, getT_of (S.at_ i hi), fun r hr => ⟨by unfold shiftF; omega, ?_⟩⟩
    have := hrefs i hi r hr
    have := hlt r.toNat (by omega)
    rw [S.len]
    unfold shiftF
    omega
  exact ⟨hW, fun i j hi hj => ⟨text_beside hW hg B ⟨hi, rfl⟩, same_beside hg hW B ⟨hi, rfl⟩ ⟨hj, rfl⟩⟩⟩
/-! ### a twin behind all others -/
def twinF (n k : Nat) (x : Int) : Int := if x = (k : Int) then (n : Int) else x
structure Wide (g h : Graph) (k a : Nat) : Prop where
  len : h.length = g.length + 1
  own : ∀ i, i < g.length → i ≠ a → h[i]? = some (getT g i)
  at_ : h[a]? = some (turnT (twinF g.length k) (getT g a))
  last : h[g.length]? = some (getT g k)
theorem wide_facts {g h : Graph} {k a : Nat} (hg : WF g) (hn : g.length < 400) (hk : k < g.length) (ha : a < g.length) (S : Wide g h k a) : WF h ∧ textG h a = textG g a ∧ sameG h k g.length = true := by
  have hrefs : ∀ i, i < g.length → ∀ r ∈ refsL (getT g i), 0 ≤ r ∧ r < g.length := fun i hi => (hg.fine (getT_mem hi)).refs
  have hid : ∀ t : Ty, turnT (fun x => x) t = t := fun t => turnT_same fun _ _ => rfl
  have B : Beside h g (fun j i => j < g.length ∧ i = j ∨ j = g.length ∧ i = k) := by
    refine beside_mk hg (fun j i hR => ?_) fun j i hR => ?_
    · rw [S.len]; omega
    · rcases hR with ⟨hj, rfl⟩ | ⟨rfl, rfl⟩
      · by_cases hja : i = a
        · subst hja
          refine ⟨_, getT_of S.at_, fun r hr => ?_⟩
          have := hrefs i hj r hr
          unfold twinF
          split <;> omega
        · refine ⟨fun x => x, by rw [hid]; exact getT_of (S.own i hj hja), fun r hr => ?_⟩
          have := hrefs i hj r hr
          dsimp only
          omega
      · refine ⟨fun x => x, by rw [hid]; exact getT_of S.last, fun r hr => ?_⟩
        have := hrefs i hk r hr
        dsimp only
        omega
  have hW : WF h := by
    refine wf_beside hg (by rw [S.len]; omega) B fun j hj => ?_
    rw [S.len] at hj ⊢
    by_cases hjn : j = g.length
    · subst hjn
      refine ⟨k, fun x => x, .inr ⟨rfl, rfl⟩, by rw [hid]; exact getT_of S.last, fun r hr => ?_⟩
      have := hrefs k hk r hr
      dsimp only
      omega
    · by_cases hja : j = a
      · subst hja
        refine ⟨j, _, .inl ⟨by omega, rfl⟩, getT_of S.at_, fun r hr => ?_⟩
        have := hrefs j ha r hr
        unfold twinF
        split <;> omega
      · refine ⟨j, fun x => x, .inl ⟨by omega, rfl⟩, by rw [hid]; exact getT_of (S.own j (by omega) hja), fun r hr => ?_⟩
        have := hrefs j (by omega) r hr
        dsimp only
        omega
  refine ⟨hW, text_beside hW hg B (.inl ⟨ha, rfl⟩), ?_⟩
  rw [same_beside hg hW B (j := k) (i := k) (j' := g.length) (i' := k) (.inl ⟨hk, rfl⟩) (.inr ⟨rfl, rfl⟩)]
  unfold sameG
  simp
/-! ### merged types -/
theorem filter_at (p : Nat → Bool) : ∀ n c, c < n → p c = true → ((List.range n).filter p)[(List.range c).countP p]? = some c
  | 0, c, h, _ => by omega
  | n + 1, c, h, hp => by
    rw [List.range_succ, List.filter_append]
    have hlen : ∀ m, ((List.range m).filter p).length = (List.range m).countP p := fun m => by rw [List.countP_eq_length_filter]
    by_cases hc : c < n
    · have h1 := filter_at p n c hc hp
      rw [List.getElem?_append_left (List.getElem?_eq_some_iff.1 h1).1]
      exact h1
    · obtain rfl : c = n := by omega
      rw [List.getElem?_append_right (by rw [hlen]; exact Nat.le_refl _), hlen, Nat.sub_self]
      simp [hp]
theorem filter_count (p : Nat → Bool) (n : Nat) {j c : Nat} (h : ((List.range n).filter p)[j]? = some c) : c < n ∧ p c = true ∧ j = (List.range c).countP p := by
  have hm : c ∈ (List.range n).filter p := List.mem_of_getElem? h
  rw [List.mem_filter, List.mem_range] at hm
  have h2 := filter_at p n c hm.1 hm.2
  refine ⟨hm.1, hm.2, ?_⟩
  have hnd : ((List.range n).filter p).Nodup := List.Pairwise.filter _ List.nodup_range
  have hj := (List.getElem?_eq_some_iff.1 h).1
  exact (List.getElem?_inj hj hnd).1 (by rw [h, h2])
def isRep (g : Graph) (i : Nat) : Bool := (classesG g).getD i 0 == i
def mergedTo (g : Graph) (i : Nat) : Nat := (List.range (clsG g i)).countP (isRep g)
theorem place_at {g : Graph} {i : Nat} (hi : i < g.length) (hr : clsG g i = i) : (placeL (classesG g) g.length g.length).getD i 0 = (List.range i).countP (isRep g) := by
  unfold placeL
  rw [List.getD_eq_getElem?_getD, List.getElem?_map, List.getElem?_range hi]
  have : (classesG g).getD i 0 = i := hr
  simp only [Option.map_some, Option.getD_some]
  rw [if_pos ⟨hi, this⟩]
  rfl
theorem toF_merged {g : Graph} (hg : WF g) {i : Nat} (hi : i < g.length) : toF (classesG g) (placeL (classesG g) g.length g.length) (i : Int) = (mergedTo g i : Nat) := by
  unfold toF mergedTo
  rw [Int.toNat_natCast]
  have h1 := clsG_lt hg hi
  have h2 := clsG_idem hg hi
  have e : (classesG g).getD i 0 = clsG g i := rfl
  rw [e, place_at h1 h2]
theorem mergeG_wf {g : Graph} (hg : WF g) : mergeG g = ((List.range g.length).filter (isRep g)).map fun i => turnT (toF (classesG g) (placeL (classesG g) g.length g.length)) (getT g i) := by
  unfold mergeG
  rw [errG_of hg (fun a h => by cases h), if_pos rfl]
  rfl
theorem merge_at {g : Graph} (hg : WF g) {i : Nat} (hi : i < g.length) : (mergeG g)[mergedTo g i]? = some (turnT (toF (classesG g) (placeL (classesG g) g.length g.length)) (getT g (clsG g i))) := by
  rw [mergeG_wf hg, List.getElem?_map]
  have h := filter_at (isRep g) g.length (clsG g i) (clsG_lt hg hi) (by unfold isRep; rw [beq_iff_eq]; exact clsG_idem hg hi)
  unfold mergedTo
  rw [h]; rfl
theorem merge_from {g : Graph} (hg : WF g) {j : Nat} (hj : j < (mergeG g).length) : ∃ c, c < g.length ∧ clsG g c = c ∧ mergedTo g c = j := by
  rw [mergeG_wf hg, List.length_map] at hj
  obtain ⟨h1, h2, h3⟩ := filter_count (isRep g) g.length (List.getElem?_eq_getElem hj)
  refine ⟨_, h1, ?_, ?_⟩
  · unfold isRep at h2; rw [beq_iff_eq] at h2; exact h2
  · unfold mergedTo
    unfold isRep at h2; rw [beq_iff_eq] at h2
    have e : clsG g ((List.range g.length).filter (isRep g))[j] = ((List.range g.length).filter (isRep g))[j] := h2
    rw [e]; exact h3.symm
theorem merge_len {g : Graph} (hg : WF g) : (mergeG g).length ≤ g.length := by
  rw [mergeG_wf hg, List.length_map]
  have := List.length_filter_le (isRep g) (List.range g.length)
  simpa using this
theorem merged_inj {g : Graph} (hg : WF g) {i i' : Nat} (hi : i < g.length) (hi' : i' < g.length) (h : mergedTo g i = mergedTo g i') : clsG g i = clsG g i' := by
  have f := filter_at (isRep g) g.length (clsG g i) (clsG_lt hg hi) (by unfold isRep; rw [beq_iff_eq]; exact clsG_idem hg hi)
  have f' := filter_at (isRep g) g.length (clsG g i') (clsG_lt hg hi') (by unfold isRep; rw [beq_iff_eq]; exact clsG_idem hg hi')
  unfold mergedTo at h
  rw [h, f'] at f
  exact (Option.some.inj f).symm
def MergeR (g : Graph) (j i : Nat) : Prop := i < g.length ∧ j = mergedTo g i
theorem merge_beside {g : Graph} (hg : WF g) : Beside (mergeG g) g (MergeR g) := by
  have hbi := sameN_bisim hg.abs
  have hfine : ∀ i, i < g.length → ∀ r ∈ refsL (getT g i), 0 ≤ r ∧ r < g.length := fun i hi => (hg.fine (getT_mem hi)).refs
  have hpos : ∀ x, 0 ≤ toF (classesG g) (placeL (classesG g) g.length g.length) x := fun x => by unfold toF; omega
  refine ⟨fun j i hR => ⟨?_, hR.1⟩, fun j i hR => ?_, fun j i hR => ?_⟩
  · rw [hR.2]; exact (List.getElem?_eq_some_iff.1 (merge_at hg hR.1)).1
  · rw [hR.2, getT_of (merge_at hg hR.1)]
    have h1 : agN g (clsG g i) i = true := hbi.ag _ _ (clsG_lt hg hR.1) hR.1 (clsG_idem hg hR.1)
    exact byF_agree.trans _ _ _ (agree_turn fun r _ => hpos r) h1
  · have h1 : All2 (SameN (agN g) (refsN g) g.length) (refsN g (clsG g i)) (refsN g i) := hbi.rf _ _ (clsG_lt hg hR.1) hR.1 (clsG_idem hg hR.1)
    have e : refsN (mergeG g) j = (refsN g (clsG g i)).map (mergedTo g) := by
      unfold refsN
      rw [hR.2, getT_of (merge_at hg hR.1), refs_turn fun r _ => hpos r, List.map_map, List.map_map]
      refine List.map_congr_left fun r hr => ?_
      have hrr := hfine _ (clsG_lt hg hR.1) r hr
      obtain ⟨n, rfl⟩ := Int.eq_ofNat_of_zero_le hrr.1
      simp only [Function.comp_def]
      rw [toF_merged hg (by omega), Int.toNat_natCast, Int.toNat_natCast]
    rw [e]
    have hrng : ∀ r ∈ refsN g (clsG g i), r < g.length := hg.abs.rng _ (clsG_lt hg hR.1)
    have hrng' : ∀ r ∈ refsN g i, r < g.length := hg.abs.rng _ hR.1
    have : ∀ xs ys : List Nat, All2 (SameN (agN g) (refsN g) g.length) xs ys → (∀ r ∈ ys, r < g.length) → All2 (MergeR g) (xs.map (mergedTo g)) ys := by
      intro xs ys h
      induction h with
      | nil => intro _; exact .nil
      | cons hxy _ ih =>
        intro hy
        refine .cons ⟨hy _ (by simp), ?_⟩ (ih fun r hr => hy r (by simp [hr]))
        unfold mergedTo
        have : clsG g _ = clsG g _ := hxy
        rw [this]
    exact this _ _ h1 hrng'
theorem merge_wf {g : Graph} (hg : WF g) : WF (mergeG g) := by
  refine wf_beside hg (Nat.le_trans (merge_len hg) hg.len) (merge_beside hg) fun j hj => ?_
  obtain ⟨c, c1, c2, c3⟩ := merge_from hg hj
  refine ⟨c, toF (classesG g) (placeL (classesG g) g.length g.length), ⟨c1, c3.symm⟩, ?_, fun r hr => ?_⟩
  · have := merge_at hg c1
    rw [c3, c2] at this
    exact getT_of this
  · have hrr := (hg.fine (getT_mem c1)).refs r hr
    obtain ⟨n, rfl⟩ := Int.eq_ofNat_of_zero_le hrr.1
    rw [toF_merged hg (by omega)]
    have := (List.getElem?_eq_some_iff.1 (merge_at hg (i := n) (by omega))).1
    omega
theorem merge_cls {g : Graph} (hg : WF g) {j : Nat} (hj : j < (mergeG g).length) : clsG (mergeG g) j = j := by
  have hm := merge_wf hg
  have hinj : ∀ p q, p < (mergeG g).length → q < (mergeG g).length → clsG (mergeG g) p = clsG (mergeG g) q → p = q := by
    intro p q hp hq h
    obtain ⟨c, c1, c2, c3⟩ := merge_from hg hp
    obtain ⟨d, d1, d2, d3⟩ := merge_from hg hq
    have := (beside_cls hm hg (merge_beside hg) p c q d ⟨c1, c3.symm⟩ ⟨d1, d3.symm⟩).1 h
    rw [c2, d2] at this
    rw [← c3, ← d3, this]
  exact hinj _ _ (clsG_lt hm hj) hj (clsG_idem hm hj)
theorem merge_text {g : Graph} (hg : WF g) {a : Nat} (ha : a < g.length) : textG (mergeG g) (mergedTo g a) = textG g a :=
  text_beside (merge_wf hg) hg (merge_beside hg) ⟨ha, rfl⟩
theorem classes_id {g : Graph} (hg : WF g) (h : ∀ i, i < g.length → clsG g i = i) : classesG g = List.range g.length := by
  refine List.ext_getElem? fun i => ?_
  by_cases hi : i < g.length
  · rw [List.getElem?_range hi]
    have := h i hi
    unfold clsG at this
    rw [List.getD_eq_getElem?_getD, List.getElem?_eq_getElem (by rw [classesG_length g hg]; exact hi)] at this
    rw [List.getElem?_eq_getElem (by rw [classesG_length g hg]; exact hi)]
    simpa using this
  · rw [List.getElem?_eq_none (by rw [classesG_length g hg]; omega), List.getElem?_eq_none (by simp; omega)]
theorem merged_id {g : Graph} (hg : WF g) (h : ∀ i, i < g.length → clsG g i = i) {i : Nat} (hi : i < g.length) : mergedTo g i = i := by
  unfold mergedTo
  rw [h i hi]
  have : (List.range i).countP (isRep g) = (List.range i).length := by
    rw [List.countP_eq_length]
    intro x hx
    rw [List.mem_range] at hx
    unfold isRep
    rw [beq_iff_eq]
    exact h x (by omega)
  rw [this, List.length_range]
theorem merge_again {g : Graph} (hg : WF g) (h : ∀ i, i < g.length → clsG g i = i) : mergeG g = g ∧ mergeTo g = (List.range g.length).map fun (n : Nat) => (n : Int) := by
  constructor
  · rw [mergeG_wf hg]
    have hf : (List.range g.length).filter (isRep g) = List.range g.length := by
      rw [List.filter_eq_self]
      intro x hx
      rw [List.mem_range] at hx
      unfold isRep
      rw [beq_iff_eq]
      exact h x hx
    rw [hf]
    refine List.ext_getElem? fun i => ?_
    rw [List.getElem?_map]
    by_cases hi : i < g.length
    · rw [List.getElem?_range hi, List.getElem?_eq_getElem hi, Option.map_some, ← getT_lt hi]
      congr 1
      refine turnT_same fun r hr => ?_
      have hrr := (hg.fine (getT_mem hi)).refs r hr
      obtain ⟨n, rfl⟩ := Int.eq_ofNat_of_zero_le hrr.1
      rw [toF_merged hg (by omega), merged_id hg h (by omega)]
    · rw [List.getElem?_eq_none (by simp; omega), List.getElem?_eq_none (by omega)]; rfl
  · unfold mergeTo
    rw [errG_of hg (fun a h => by cases h), if_pos rfl, classes_id hg h]
    refine List.map_congr_left fun i hi => ?_
    rw [List.mem_range] at hi
    have := place_at hi (h i hi)
    rw [← classes_id hg h, this]
    have h2 := merged_id hg h hi
    unfold mergedTo at h2
    rw [h i hi] at h2
    rw [h2]
theorem mergeTo_at {g : Graph} (hg : WF g) : mergeTo g = (List.range g.length).map fun i => (mergedTo g i : Int) := by
  unfold mergeTo
  rw [errG_of hg (fun a h => by cases h), if_pos rfl]
  refine List.ext_getElem? fun i => ?_
  rw [List.getElem?_map, List.getElem?_map]
  by_cases hi : i < g.length
  · rw [List.getElem?_range hi, List.getElem?_eq_getElem (by rw [classesG_length g hg]; exact hi)]
    simp only [Option.map_some, Option.some.injEq]
    have e : (classesG g)[i]'(by rw [classesG_length g hg]; exact hi) = clsG g i := by
      unfold clsG
      rw [List.getD_eq_getElem?_getD, List.getElem?_eq_getElem (by rw [classesG_length g hg]; exact hi)]; rfl
    rw [e, place_at (clsG_lt hg hi) (clsG_idem hg hi)]
    rfl
  · rw [List.getElem?_eq_none (by rw [classesG_length g hg]; omega), List.getElem?_eq_none (by simp; omega)]; rfl
end Go.Proofs.YtldnjnnhfeobdaaGreatDoor
