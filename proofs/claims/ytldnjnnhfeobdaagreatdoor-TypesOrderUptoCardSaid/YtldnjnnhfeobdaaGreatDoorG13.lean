/- Contract: Classes; turned types are as small. Conditions: a tidy graph. -/
import Derived.Test.YtldnjnnhfeobdaaGreatDoorG08
import Derived.Test.YtldnjnnhfeobdaaGreatDoorG10
namespace Go.Proofs.YtldnjnnhfeobdaaGreatDoor
set_option linter.all false
set_option linter.unusedSimpArgs false
set_option linter.unusedVariables false
open Go.RowKit Go.Shelf

def ClassesPost (w : World) (g : Graph) (e : Ending) (w' : World) : Prop :=
  ∃ v, e = .returned (.tuple #[v, .int .i64 (errG g [])]) ∧ Sl intE w' v (classesR g) ∧ Ext w w'
set_option maxRecDepth 100000 in
set_option maxHeartbeats 4000000 in
theorem Classes_any (w : World) (gv : Value) (g : Graph) (hg : Sl tyE w gv g) (hT : Tidy g) (hG : Glob w) :
    Calls Tryz.prog 32 #[gv] w (ClassesPost w g) := by
  have hop := opened_any w gv (.slice none 0 0) g [] hg hT hG (Sl.nil _ _) (by simp)
  have hcl := fun (hW : WF g) (w' : World) (hx : Ext w w') => classes_any w' gv g (hg.mono hx) hT hW
  obtain ⟨A, cap, rfl⟩ := hg.len
  unfold ClassesPost classesR
  by_cases h0 : errG g [] = 0
  · rw [if_pos h0]
    rw [h0] at hop ⊢
    have hcl := hcl (errG_zero h0).1
    have Hop := Lib.hid hop
    have Hcl := Lib.hid hcl
    clear hop hcl hg hG hT h0
    go_enter Tryz.func32, Tryz.ntmps32
    go_wp2_with fail
    refine Hop.out.mono ?_
    rintro e w1 ⟨rfl, hx1⟩
    have Hx1 := Lib.hid (hx1.alloc (.cells #[.slice A g.length cap] 77))
    clear hx1
    go_wp2_with fail
    refine (Hcl.out _ Hx1.out).mono ?_
    rintro e w2 ⟨v, rfl, hv, hx2⟩
    have Hx2 := Lib.hid (Hx1.out.trans hx2)
    have Hv := Lib.hid hv.any
    clear hv hx2
    go_wp2_with fail
    go_ret2
    exact ⟨v, rfl, Hv.out, Hx2.out⟩
  · rw [if_neg h0]
    have hne : (errG g [] != 0) = true := by simpa using h0
    generalize errG g [] = er at hop hne ⊢
    have Hop := Lib.hid hop
    clear hop hcl hg hT hG h0
    go_enter Tryz.func32, Tryz.ntmps32
    go_wp2_with fail
    refine Hop.out.mono ?_
    rintro e w1 ⟨rfl, hx1⟩
    go_wp2_with fail
    go_ret2
    exact ⟨_, rfl, Sl.nil _ _, hx1.alloc _⟩
theorem small_turn {f : Int → Int} {t : Ty} (h : TySmall t) : TySmall (turnT f t) := by
  refine ⟨h.brand, h.opaq, ?_, ?_, ?_, ?_, h.overs, h.over⟩
  · simpa [turnT] using h.parts
  · intro p hp
    obtain ⟨q, hq, rfl⟩ := List.mem_map.1 (show p ∈ t.parts.map (turnP f) from hp)
    exact h.part q hq
  · simpa [turnT] using h.methods
  · intro m hm
    obtain ⟨q, hq, rfl⟩ := List.mem_map.1 (show m ∈ t.methods.map (turnM f) from hm)
    obtain ⟨h1, h2, h3, h4, h5⟩ := h.method q hq
    exact ⟨h1, h2, by simpa [turnM] using h3, h4, h5⟩
theorem tidy_merge {g : Graph} (h : Tidy g) (hg : WF g) : Tidy (mergeG g) := by
  refine ⟨Nat.le_trans (merge_len hg) h.len, fun t ht => ?_⟩
  rw [mergeG_wf hg] at ht
  obtain ⟨i, hi, rfl⟩ := List.mem_map.1 ht
  have hi2 : i < g.length := by simpa using (List.mem_filter.1 hi).1
  obtain ⟨h1, h2⟩ := h.ty _ (getT_mem hi2)
  exact ⟨small_turn h1, h2⟩
end Go.Proofs.YtldnjnnhfeobdaaGreatDoor
