/- TypesEqual returns true for every input of bulk at most 1048576; the arguments read as they did. Conditions: those of the given card. -/
import Derived.Test.YtldnjnnhfeobdaaGreatDoorG14
set_option linter.all false
set_option linter.unusedSimpArgs false
set_option linter.unusedVariables false
namespace Go.Proofs.YtldnjnnhfeobdaaGreatDoor
open Go.RowKit Go.ChangeShapes Go.WideShapes Go.ChangeAt
set_option maxRecDepth 100000 in
theorem eql_c_contract (H : Type) (enc : TypeId × Value → H) (W : World) (base : Nat) (args : Array Value) (ds gs : List (DataW H)) (before : List MemPlace)
  (hval : ∀ (j : Nat) t v, Tryz.f9.params[j]? = some t → args[j]? = some v → Value.okWide Tryz.prog W .any base t v)
  (hW : DataW.Whole enc Tryz.prog Tryz.f9.params.toList Rows.typesEqualSpec.vars false W args.toList ds gs before) (hL : laidMetH Tryz.prog tabs W) (hsh : W.ShapedOpen Tryz.prog) {B : Nat} (hB : B = 1048576) (hb : Rows.uptoBulkAll ds ≤ B) :
  Calls Tryz.prog 9 args W fun e W' => ∃ v, e = .returned v ∧ Rows.typesEqualSpec.post enc Tryz.prog Tryz.f9 false true false false W args v W' := by
 have hW' := hW
 obtain ⟨p, q, hA0, hV, rfl, _, _⟩ := hW
 have hA : DataW.TrodAll enc Tryz.prog W 0 (fun _ => true) true Tryz.f9.params.toList args.toList ds p := hA0
 rw [Tryz.params9] at hA hval
 obtain ⟨v0, v1, v2, v3, d0, d1, d2, d3, p0, p1, p2, p3, rfl, rfl, rfl, h0, h1, h2, h3⟩ := trodAll_four hA
 obtain ⟨a1, rfl, rfl, rfl, _⟩ := open_int Tryz.underlying3 (hval 1 3 v1 rfl rfl) h1
 obtain ⟨a2, rfl, rfl, rfl, _⟩ := open_int Tryz.underlying3 (hval 2 3 v2 rfl rfl) h2
 simp only [Rows.uptoBulkAll] at hb
 obtain ⟨g0, hg0, hT0⟩ := open_graph (hval 0 23 v0 rfl rfl) h0 hB (by omega)
 obtain ⟨x3, hx3, hl3⟩ := open_pairs (hval 3 56 v3 rfl rfl) h3 hB (by omega)
 refine (equal_law W _ _ g0 a1 a2 x3 hg0 hT0 (glob_of hL hsh) hx3 hl3).mono ?_
 rintro e W' ⟨rfl, hx⟩
 exact ⟨_, rfl, law_post rfl rfl (by decide +kernel) rfl hW' hx⟩
theorem eql_c_reads (os : Os) {H : Type} (enc : TypeId × Value → H) : ∃ places, DataW.whole enc Tryz.prog ((World.laidAll Tryz.prog os tabs).forCall (fun _ _ => 0) ⟨#[], #[.slice none 0 0, .int .i64 0, .int .i64 0, .slice none 0 0], []⟩).memory Tryz.f9.params.toList Rows.typesEqualSpec.vars false #[Value.slice none 0 0, .int .i64 0, .int .i64 0, .slice none 0 0].toList 8 = some ([.nil, .lit (.int .i64 0), .lit (.int .i64 0), .nil], [], places) :=
 ⟨[], by kernel_rfl⟩
theorem eql_c_tabs (os : Os) (args : Array Value) : laidMetH Tryz.prog tabs ((World.laidAll Tryz.prog os tabs).forCall (fun _ _ => 0) ⟨#[], args, []⟩).memory := by
 rw [MakeChecks.laidMetH_plain _ _ _ (by kernel_rfl)]; exact laidMet_laidAll _ (by kernel_rfl) (by kernel_rfl)
set_option maxRecDepth 100000 in
theorem eql_c_lifted (os : Os) (started : os.Started) (H : Type) (enc : TypeId × Value → H) (F : Stop.Interp) :
  ReturnsInHanded {} Tryz.checked os 9 .any ((Rows.OpenSpec.upto Rows.typesEqualSpec).preRow enc Tryz.prog Tryz.f9 Rows.typesEqualUptoRow.domain false Rows.typesEqualUptoRow.laid) (((Rows.OpenSpec.upto Rows.typesEqualSpec).at F).post enc Tryz.prog Tryz.f9 false true false false) := by
 obtain ⟨places, hx⟩ := eql_c_reads os enc
 refine returnsInHanded_of_row (C := Tryz.checked) (s := Rows.OpenSpec.upto Rows.typesEqualSpec) own started (by kernel_rfl) Tryz.func9
  (witness_row_at (enc := enc) (C := Tryz.checked) false (World.laidAll Tryz.prog os tabs) #[.slice none 0 0, .int .i64 0, .int .i64 0, .slice none 0 0] (World.laidAll_os _ _ _) (by kernel_rfl) (by kernel_rfl) (by kernel_rfl)
   (OpenSpec.preRow_of_cond 8 hx (by kernel_rfl) (fun k hk => by cases hk; kernel_rfl) (by kernel_rfl) (eql_c_tabs os _))) ?_
 intro W base args ds gs before hval hW _ hcond _ hL hsh _
 obtain ⟨B, hB, hb⟩ := bulk_of (hcond _ rfl)
 exact eql_c_contract H enc W base args ds gs before hval hW hL hsh hB hb
set_option maxHeartbeats 2000000 in
set_option maxRecDepth 100000 in
theorem eql_c_said : Rows.TypesEqualUptoSaid :=
 OpenClaim.holds_of_cond 9 Tryz.f9 rfl rfl rfl rfl rfl rfl rfl ⟨rfl, rfl, rfl, rfl, rfl⟩ rfl rfl rfl rfl rfl (by as_aux_lemma => kernel_rfl) Tryz.func9 (by as_aux_lemma => kernel_rfl)
  (of_decide_eq_true (by as_aux_lemma => kernel_rfl)) (by as_aux_lemma => unfold Func.isWrapper; first | (rw [if_pos (by decide +kernel)]; kernel_rfl) | (rw [if_neg (by decide +kernel)]; exact ⟨rfl, rfl⟩))
  (fun os started H enc _ F => by rw [OpenClaim.pre_eq_preRow]; exact eql_c_lifted os started H enc F)
theorem eql_c_plain (f : FuncId) (fn : Func) (hf : Tryz.pinned.checked.prog.funcNamed "trestle/trestlelaw03.TypesEqual" = some f) (hfn : Tryz.pinned.checked.prog.funcs[f]? = some fn) :
  true = Tryz.pinned.checked.prog.looks [] ∧ ∀ (j : Nat) t, fn.params[j]? = some t → Tryz.pinned.checked.prog.wantsStandIn t = false := by
 obtain rfl : f = 9 := Option.some.inj ((show Tryz.prog.funcNamed "trestle/trestlelaw03.TypesEqual" = some 9 by kernel_rfl).symm.trans hf) |>.symm
 obtain rfl : fn = Tryz.f9 := (Option.some.inj (Tryz.func9.symm.trans hfn)).symm
 have key : ∀ t ∈ Tryz.f9.params.toList, Tryz.prog.wantsStandIn t = false := by decide +kernel
 exact ⟨by kernel_rfl, fun j t ht => key t (Array.mem_toList_iff.2 (Array.mem_of_getElem? ht))⟩
theorem types_equal_upto : Rows.TypesEqualUptoCardSaid :=
 Claim7.holds_tied_plain_at .later [] _ _ _ _ eql_c_said (fun _ h => by cases h) (by kernel_rfl) (fun _ h => by cases h) typesEqualUpto_row_tie rfl ⟨rfl, rfl⟩ (by kernel_rfl) rfl eql_c_plain (by kernel_rfl)
end Go.Proofs.YtldnjnnhfeobdaaGreatDoor
