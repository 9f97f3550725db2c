/- TypesMerge returns true for every input of bulk at most 1048576; the arguments read as they did. Conditions: those of the given card. -/
import Derived.Test.YtldnjnnhfeobdaaGreatDoorG09
import Derived.Test.YtldnjnnhfeobdaaGreatDoorG13
set_option linter.all false
set_option linter.unusedSimpArgs false
set_option linter.unusedVariables false
namespace Go.Proofs.YtldnjnnhfeobdaaGreatDoor
open Go.RowKit Go.ChangeShapes Go.WideShapes Go.ChangeAt
set_option maxRecDepth 100000 in
theorem mrg_c_contract (H : Type) (enc : TypeId × Value → H) (W : World) (base : Nat) (args : Array Value) (ds gs : List (DataW H)) (before : List MemPlace)
  (hval : ∀ (j : Nat) t v, Tryz.f8.params[j]? = some t → args[j]? = some v → Value.okWide Tryz.prog W .any base t v)
  (hW : DataW.Whole enc Tryz.prog Tryz.f8.params.toList Rows.typesMergeSpec.vars false W args.toList ds gs before) (hL : laidMetH Tryz.prog tabs W) (hsh : W.ShapedOpen Tryz.prog) {B : Nat} (hB : B = 1048576) (hb : Rows.uptoBulkAll ds ≤ B) :
  Calls Tryz.prog 8 args W fun e W' => ∃ v, e = .returned v ∧ Rows.typesMergeSpec.post enc Tryz.prog Tryz.f8 false true false false W args v W' := by
 have hW' := hW
 obtain ⟨p, q, hA0, hV, rfl, _, _⟩ := hW
 have hA : DataW.TrodAll enc Tryz.prog W 0 (fun _ => true) true Tryz.f8.params.toList args.toList ds p := hA0
 rw [Tryz.params8] at hA hval
 obtain ⟨v0, d0, rfl, rfl, h0⟩ := trodAll_one hA
 simp only [Rows.uptoBulkAll] at hb
 obtain ⟨g0, hg0, hT0⟩ := open_graph (hval 0 23 v0 rfl rfl) h0 hB (by omega)
 refine (merge_law W _ g0 hg0 hT0 (glob_of hL hsh)).mono ?_
 rintro e W' ⟨rfl, hx⟩
 exact ⟨_, rfl, law_post rfl rfl (by decide +kernel) rfl hW' hx⟩
theorem mrg_c_reads (os : Os) {H : Type} (enc : TypeId × Value → H) : ∃ places, DataW.whole enc Tryz.prog ((World.laidAll Tryz.prog os tabs).forCall (fun _ _ => 0) ⟨#[], #[.slice none 0 0], []⟩).memory Tryz.f8.params.toList Rows.typesMergeSpec.vars false #[Value.slice none 0 0].toList 8 = some ([.nil], [], places) :=
 ⟨[], by kernel_rfl⟩
theorem mrg_c_tabs (os : Os) (args : Array Value) : laidMetH Tryz.prog tabs ((World.laidAll Tryz.prog os tabs).forCall (fun _ _ => 0) ⟨#[], args, []⟩).memory := by
 rw [MakeChecks.laidMetH_plain _ _ _ (by kernel_rfl)]; exact laidMet_laidAll _ (by kernel_rfl) (by kernel_rfl)
set_option maxRecDepth 100000 in
theorem mrg_c_lifted (os : Os) (started : os.Started) (H : Type) (enc : TypeId × Value → H) (F : Stop.Interp) :
  ReturnsInHanded {} Tryz.checked os 8 .any ((Rows.OpenSpec.upto Rows.typesMergeSpec).preRow enc Tryz.prog Tryz.f8 Rows.typesMergeUptoRow.domain false Rows.typesMergeUptoRow.laid) (((Rows.OpenSpec.upto Rows.typesMergeSpec).at F).post enc Tryz.prog Tryz.f8 false true false false) := by
 obtain ⟨places, hx⟩ := mrg_c_reads os enc
 refine returnsInHanded_of_row (C := Tryz.checked) (s := Rows.OpenSpec.upto Rows.typesMergeSpec) own started (by kernel_rfl) Tryz.func8
  (witness_row_at (enc := enc) (C := Tryz.checked) false (World.laidAll Tryz.prog os tabs) #[.slice none 0 0] (World.laidAll_os _ _ _) (by kernel_rfl) (by kernel_rfl) (by kernel_rfl)
   (OpenSpec.preRow_of_cond 8 hx (by kernel_rfl) (fun k hk => by cases hk; kernel_rfl) (by kernel_rfl) (mrg_c_tabs os _))) ?_
 intro W base args ds gs before hval hW _ hcond _ hL hsh _
 obtain ⟨B, hB, hb⟩ := bulk_of (hcond _ rfl)
 exact mrg_c_contract H enc W base args ds gs before hval hW hL hsh hB hb
set_option maxHeartbeats 2000000 in
set_option maxRecDepth 100000 in
theorem mrg_c_said : Rows.TypesMergeUptoSaid :=
 OpenClaim.holds_of_cond 8 Tryz.f8 rfl rfl rfl rfl rfl rfl rfl ⟨rfl, rfl, rfl, rfl, rfl⟩ rfl rfl rfl rfl rfl (by as_aux_lemma => kernel_rfl) Tryz.func8 (by as_aux_lemma => kernel_rfl)
  (of_decide_eq_true (by as_aux_lemma => kernel_rfl)) (by as_aux_lemma => unfold Func.isWrapper; first | (rw [if_pos (by decide +kernel)]; kernel_rfl) | (rw [if_neg (by decide +kernel)]; exact ⟨rfl, rfl⟩))
  (fun os started H enc _ F => by rw [OpenClaim.pre_eq_preRow]; exact mrg_c_lifted os started H enc F)
theorem mrg_c_plain (f : FuncId) (fn : Func) (hf : Tryz.pinned.checked.prog.funcNamed "trestle/trestlelaw03.TypesMerge" = some f) (hfn : Tryz.pinned.checked.prog.funcs[f]? = some fn) :
  true = Tryz.pinned.checked.prog.looks [] ∧ ∀ (j : Nat) t, fn.params[j]? = some t → Tryz.pinned.checked.prog.wantsStandIn t = false := by
 obtain rfl : f = 8 := Option.some.inj ((show Tryz.prog.funcNamed "trestle/trestlelaw03.TypesMerge" = some 8 by kernel_rfl).symm.trans hf) |>.symm
 obtain rfl : fn = Tryz.f8 := (Option.some.inj (Tryz.func8.symm.trans hfn)).symm
 have key : ∀ t ∈ Tryz.f8.params.toList, Tryz.prog.wantsStandIn t = false := by decide +kernel
 exact ⟨by kernel_rfl, fun j t ht => key t (Array.mem_toList_iff.2 (Array.mem_of_getElem? ht))⟩
theorem types_merge_upto : Rows.TypesMergeUptoCardSaid :=
 Claim7.holds_tied_plain_at .later [] _ _ _ _ mrg_c_said (fun _ h => by cases h) (by kernel_rfl) (fun _ h => by cases h) typesMergeUpto_row_tie rfl ⟨rfl, rfl⟩ (by kernel_rfl) rfl mrg_c_plain (by kernel_rfl)
end Go.Proofs.YtldnjnnhfeobdaaGreatDoor
