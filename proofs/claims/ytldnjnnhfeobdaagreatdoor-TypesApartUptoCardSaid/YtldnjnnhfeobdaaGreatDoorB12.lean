/- Parts of the proof, joined: Contract of the reference: a type as said in itself. Conditions: lengths below 2^20; Contracts of the reference: what is wrong with a graph; the first error of a graph and indices; Word. Conditions: a tidy graph; Contract of the reference: two types agree at once. Conditions: lengths below 2^20. -/
import Derived.Test.YtldnjnnhfeobdaaGreatDoorB10
import Derived.Test.YtldnjnnhfeobdaaGreatDoorB11
import Derived.Test.YtldnjnnhfeobdaaGreatDoorB6
import Derived.Test.YtldnjnnhfeobdaaGreatDoorB5
namespace Go.Proofs.YtldnjnnhfeobdaaGreatDoor
set_option linter.all false
set_option linter.unusedSimpArgs false
set_option linter.unusedVariables false
open Go.RowKit Go.Shelf

def simpleB (k : Int) : Bool := decide (k = 1 ∨ k = 2 ∨ k = 4 ∨ k = 5 ∨ k = 6 ∨ k = 7 ∨ k = 8)
def heldK (k : Int) : Bool := decide (k = 9 ∨ k = 11)
theorem said_simple {g : Graph} {t : Ty} (h : simpleB t.kind = true) : saidB g t = (numsB t && (brandlessB t && (topB t && (bareB t && (plainsB t && clearB t))))) := by
  unfold simpleB at h
  have h := of_decide_eq_true h
  unfold saidB
  rw [if_neg (by omega), if_neg (by omega), if_neg (by omega), if_neg (by omega), if_neg (by omega), if_pos (by omega)]
theorem said_none {g : Graph} {t : Ty} (h : simpleB t.kind = false) (h3 : t.kind ≠ 3) (h9 : heldK t.kind = false) (h10 : t.kind ≠ 10) (h12 : t.kind ≠ 12) (h13 : t.kind ≠ 13) : saidB g t = false := by
  unfold simpleB at h
  have h := of_decide_eq_false h
  unfold heldK at h9
  have h9 := of_decide_eq_false h9
  unfold saidB
  rw [if_neg h3, if_neg h9, if_neg h10, if_neg h12, if_neg h13, if_neg (by omega)]
set_option maxRecDepth 100000 in
set_option maxHeartbeats 32000000 in
theorem rsaid_any (w : World) (gv : Value) (g : Graph) (t : Ty) (vp vm vo : Value) (hg : Sl tyE w gv g) (hgn : g.length ≤ 1048576) (hof : TyOf w t vp vm vo) (hs : TySmall t) :
    Calls Tryz.prog 64 #[gv, tyV t vp vm vo] w (Ret w (.bool (saidB g t))) := by
  have hsup := fun w' (hx : Ext w w') => rsuper_any w' gv g t vp vm vo (hg.mono hx) hgn
  obtain ⟨Ag, cg, eg⟩ := hg.len
  subst eg
  have hmt := fun w' (hx : Ext w w') => rmethods_any w' Ag g.length cg t vp vm vo hgn (hof.mono hx) hs
  have hpt := fun w' (hx : Ext w w') => rparts_any w' Ag g.length cg vp t.parts hgn (hof.parts.mono hx) hs.parts hs.part
  have hbr := fun w' => rbrand_any t.brand w' hs.brand
  have hsy := fun w' => rsymbol_any t.opaq w' hs.opaq
  obtain ⟨A1, c1, e1, hp⟩ := hof.parts.part
  obtain ⟨A2, c2, e2⟩ := hof.methods.len
  obtain ⟨A3, c3, e3⟩ := hof.overs.len
  subst e1 e2 e3
  have Hp := Lib.hid hp
  have Hsup := Lib.hid hsup
  have Hmt := Lib.hid hmt
  have Hpt := Lib.hid hpt
  have Hbr := Lib.hid hbr
  have Hsy := Lib.hid hsy
  have hq1 := hs.parts
  have hq2 := hs.methods
  have hq3 := hs.overs
  clear hp hsup hmt hpt hbr hsy hs hof hg
  unfold tyV at Hsup Hmt ⊢
  have hx0 := (Ext.refl w).alloc (.cells #[.int .u8 t.kind, .int .i64 t.low, .int .i64 t.high, .bool t.branded, .string t.brand, .string t.opaq, .int .i64 t.super, .slice A1 t.parts.length c1, .slice A2 t.methods.length c2, .slice A3 t.overs.length c3] 42)
  have hbx : TyBox (w.alloc (.cells #[.int .u8 t.kind, .int .i64 t.low, .int .i64 t.high, .bool t.branded, .string t.brand, .string t.opaq, .int .i64 t.super, .slice A1 t.parts.length c1, .slice A2 t.methods.length c2, .slice A3 t.overs.length c3] 42)) w.heap.size t (.slice A1 t.parts.length c1) (.slice A2 t.methods.length c2) (.slice A3 t.overs.length c3) := heap_alloc_self w _
  have Hx0 := Lib.hid hx0
  have Hbx := Lib.hid hbx
  clear hx0 hbx
  go_enter Tryz.func64, Tryz.ntmps64
  go_upto_region 1 with fail
  generalize (w.alloc (.cells #[.int .u8 t.kind, .int .i64 t.low, .int .i64 t.high, .bool t.branded, .string t.brand, .string t.opaq, .int .i64 t.super, .slice A1 t.parts.length c1, .slice A2 t.methods.length c2, .slice A3 t.overs.length c3] 42)) = w1 at *
  generalize w.heap.size = b1 at *
  have l1 := Hbx.out.lt
  go_cut [5] (fun s wx => s = .bool (numsB t) ∧ wx = w1)
  case first =>
    as_aux_lemma =>
      obtain ⟨d0, d1, d2, d3, d4, d5, d6, d7, d8, d9⟩ := Hbx.out.at
      simp only [Nat.zero_add] at d0 d1 d2 d3 d4 d5 d6 d7 d8 d9
      by_cases h1 : t.low = 0
      · have q1 : (t.low == 0) = true := by simpa using h1
        by_cases h2 : t.high = 0
        · have q2 : (t.high == 0) = true := by simpa using h2
          have hv : numsB t = true := by unfold numsB; simp [*]
          have Hv := Lib.hid hv
          clear hv h1 h2
          go_wp2_with fail
          go_meet
          rw [Hv.out]
          exact ⟨rfl, rfl⟩
        · have q2 : (t.high == 0) = false := by simpa using h2
          have hv : numsB t = false := by unfold numsB; simp [*]
          have Hv := Lib.hid hv
          clear hv h1 h2
          go_wp2_with fail
          go_meet
          rw [Hv.out]
          exact ⟨rfl, rfl⟩
      · have q1 : (t.low == 0) = false := by simpa using h1
        have hv : numsB t = false := by unfold numsB; simp [*]
        have Hv := Lib.hid hv
        clear hv h1
        go_wp2_with fail
        go_meet
        rw [Hv.out]
        exact ⟨rfl, rfl⟩
  case rest =>
    obtain ⟨rfl, rfl⟩ := hcut
    obtain ⟨w1, rfl⟩ : ∃ w1 : World, w1 = wc := ⟨_, rfl⟩
    go_upto_region 2 with fail
    go_cut [6] (fun s wx => s = .bool (brandlessB t) ∧ wx = w1)
    case first =>
      as_aux_lemma =>
        obtain ⟨d0, d1, d2, d3, d4, d5, d6, d7, d8, d9⟩ := Hbx.out.at
        simp only [Nat.zero_add] at d0 d1 d2 d3 d4 d5 d6 d7 d8 d9
        by_cases hb : t.branded = true
        · skip
          have hv : brandlessB t = false := by unfold brandlessB; rw [hb]; rfl
          have Hv := Lib.hid hv
          clear hv
          rw [hb] at d3
          clear hb
          go_wp2_with fail
          go_meet
          rw [Hv.out]
          exact ⟨rfl, rfl⟩
        · replace hb : t.branded = false := by simpa using hb
          rw [hb] at d3
          by_cases h1 : strEq t.brand ByteArray.empty = true
          · have q1 : t.brand.toList.isEmpty = true := by rw [isEmpty_strEq]; exact h1
            have r1 : t.brand.toList = [] := by simpa using q1
            have hv : brandlessB t = true := by unfold brandlessB; rw [hb, h1]; rfl
            have Hv := Lib.hid hv
            clear hv h1 hb
            go_wp2_with fail
            go_meet
            rw [Hv.out]
            exact ⟨rfl, rfl⟩
          · have q1 : t.brand.toList.isEmpty = false := by rw [isEmpty_strEq]; simpa using h1
            have r1 : ¬ t.brand.toList = [] := by simpa using q1
            have hv : brandlessB t = false := by unfold brandlessB; rw [hb]; simpa using h1
            have Hv := Lib.hid hv
            clear hv h1 hb
            go_wp2_with fail
            go_meet
            rw [Hv.out]
            exact ⟨rfl, rfl⟩
    case rest =>
      obtain ⟨rfl, rfl⟩ := hcut
      obtain ⟨w1, rfl⟩ : ∃ w1 : World, w1 = wc := ⟨_, rfl⟩
      go_upto_region 3 with fail
      go_cut [7] (fun s wx => s = .bool (topB t) ∧ wx = w1)
      case first =>
        as_aux_lemma =>
          obtain ⟨d0, d1, d2, d3, d4, d5, d6, d7, d8, d9⟩ := Hbx.out.at
          simp only [Nat.zero_add] at d0 d1 d2 d3 d4 d5 d6 d7 d8 d9
          by_cases h1 : t.super = 0
          · have q1 : (t.super == 0) = true := by simpa using h1
            have hv : topB t = true := by unfold topB; simp [*]
            have Hv := Lib.hid hv
            clear hv h1
            go_wp2_with fail
            go_meet
            rw [Hv.out]
            exact ⟨rfl, rfl⟩
          · have q1 : (t.super == 0) = false := by simpa using h1
            have hv : topB t = false := by unfold topB; simp [*]
            have Hv := Lib.hid hv
            clear hv h1
            go_wp2_with fail
            go_meet
            rw [Hv.out]
            exact ⟨rfl, rfl⟩
      case rest =>
        obtain ⟨rfl, rfl⟩ := hcut
        obtain ⟨w1, rfl⟩ : ∃ w1 : World, w1 = wc := ⟨_, rfl⟩
        go_upto_region 4 with fail
        go_cut [8] (fun s wx => s = .bool (bareB t) ∧ wx = w1)
        case first =>
          as_aux_lemma =>
            obtain ⟨d0, d1, d2, d3, d4, d5, d6, d7, d8, d9⟩ := Hbx.out.at
            simp only [Nat.zero_add] at d0 d1 d2 d3 d4 d5 d6 d7 d8 d9
            by_cases h1 : t.parts.length = 0
            · have q1 : ((t.parts.length : Int) == 0) = true := by rw [beq_iff_eq]; omega
              have hv : bareB t = true := by unfold bareB; first | rw [decide_eq_true h1] | rw [decide_eq_false h1]
              have Hv := Lib.hid hv
              clear hv h1
              go_wp2_with fail
              go_meet
              rw [Hv.out]
              exact ⟨rfl, rfl⟩
            · have q1 : ((t.parts.length : Int) == 0) = false := by rw [beq_eq_false_iff_ne]; omega
              have hv : bareB t = false := by unfold bareB; first | rw [decide_eq_true h1] | rw [decide_eq_false h1]
              have Hv := Lib.hid hv
              clear hv h1
              go_wp2_with fail
              go_meet
              rw [Hv.out]
              exact ⟨rfl, rfl⟩
        case rest =>
          obtain ⟨rfl, rfl⟩ := hcut
          obtain ⟨w1, rfl⟩ : ∃ w1 : World, w1 = wc := ⟨_, rfl⟩
          go_upto_region 5 with fail
          go_cut [9] (fun s wx => s = .bool (plainsB t) ∧ wx = w1)
          case first =>
            as_aux_lemma =>
              obtain ⟨d0, d1, d2, d3, d4, d5, d6, d7, d8, d9⟩ := Hbx.out.at
              simp only [Nat.zero_add] at d0 d1 d2 d3 d4 d5 d6 d7 d8 d9
              by_cases h1 : t.methods.length = 0
              · have q1 : ((t.methods.length : Int) == 0) = true := by rw [beq_iff_eq]; omega
                by_cases h2 : t.overs.length = 0
                · have q2 : ((t.overs.length : Int) == 0) = true := by rw [beq_iff_eq]; omega
                  have hv : plainsB t = true := by unfold plainsB; first | (rw [decide_eq_true h1, decide_eq_true h2]; rfl) | (rw [decide_eq_true h1, decide_eq_false h2]; rfl) | (rw [decide_eq_false h1]; rfl)
                  have Hv := Lib.hid hv
                  clear hv h1 h2
                  go_wp2_with fail
                  go_meet
                  rw [Hv.out]
                  exact ⟨rfl, rfl⟩
                · have q2 : ((t.overs.length : Int) == 0) = false := by rw [beq_eq_false_iff_ne]; omega
                  have hv : plainsB t = false := by unfold plainsB; first | (rw [decide_eq_true h1, decide_eq_true h2]; rfl) | (rw [decide_eq_true h1, decide_eq_false h2]; rfl) | (rw [decide_eq_false h1]; rfl)
                  have Hv := Lib.hid hv
                  clear hv h1 h2
                  go_wp2_with fail
                  go_meet
                  rw [Hv.out]
                  exact ⟨rfl, rfl⟩
              · have q1 : ((t.methods.length : Int) == 0) = false := by rw [beq_eq_false_iff_ne]; omega
                have hv : plainsB t = false := by unfold plainsB; first | (rw [decide_eq_true h1, decide_eq_true h2]; rfl) | (rw [decide_eq_true h1, decide_eq_false h2]; rfl) | (rw [decide_eq_false h1]; rfl)
                have Hv := Lib.hid hv
                clear hv h1
                go_wp2_with fail
                go_meet
                rw [Hv.out]
                exact ⟨rfl, rfl⟩
          case rest =>
            obtain ⟨rfl, rfl⟩ := hcut
            obtain ⟨w1, rfl⟩ : ∃ w1 : World, w1 = wc := ⟨_, rfl⟩
            go_upto_region 6 with fail
            go_cut [10] (fun s wx => s = .bool (clearB t) ∧ wx = w1)
            case first =>
              as_aux_lemma =>
                obtain ⟨d0, d1, d2, d3, d4, d5, d6, d7, d8, d9⟩ := Hbx.out.at
                simp only [Nat.zero_add] at d0 d1 d2 d3 d4 d5 d6 d7 d8 d9
                by_cases h1 : strEq t.opaq ByteArray.empty = true
                · have q1 : t.opaq.toList.isEmpty = true := by rw [isEmpty_strEq]; exact h1
                  have r1 : t.opaq.toList = [] := by simpa using q1
                  have hv : clearB t = true := by unfold clearB; simpa using h1
                  have Hv := Lib.hid hv
                  clear hv h1
                  go_wp2_with fail
                  go_meet
                  rw [Hv.out]
                  exact ⟨rfl, rfl⟩
                · have q1 : t.opaq.toList.isEmpty = false := by rw [isEmpty_strEq]; simpa using h1
                  have r1 : ¬ t.opaq.toList = [] := by simpa using q1
                  have hv : clearB t = false := by unfold clearB; simpa using h1
                  have Hv := Lib.hid hv
                  clear hv h1
                  go_wp2_with fail
                  go_meet
                  rw [Hv.out]
                  exact ⟨rfl, rfl⟩
            case rest =>
              obtain ⟨rfl, rfl⟩ := hcut
              obtain ⟨w1, rfl⟩ : ∃ w1 : World, w1 = wc := ⟨_, rfl⟩
              go_upto_region 7 with fail
              go_cut [11] (fun s wx => s = .bool (brandingB t) ∧ wx = w1)
              case first =>
                as_aux_lemma =>
                  obtain ⟨d0, d1, d2, d3, d4, d5, d6, d7, d8, d9⟩ := Hbx.out.at
                  simp only [Nat.zero_add] at d0 d1 d2 d3 d4 d5 d6 d7 d8 d9
                  cases hi : isBrandB t.brand with
                  | false =>
                    have hv : brandingB t = false := by unfold brandingB; rw [hi]; rfl
                    have Hv := Lib.hid hv
                    have Hi := Lib.hid hi
                    clear hv hi
                    go_wp2_with fail
                    refine (Hbr.out _).mono ?_
                    rintro e w2 ⟨rfl, rfl⟩
                    rw [Hi.out]
                    go_wp2_with fail
                    go_meet
                    rw [Hv.out]
                    exact ⟨rfl, rfl⟩
                  | true =>
                    by_cases hb : t.branded = true
                    · skip
                      have hv : brandingB t = true := by unfold brandingB; rw [hi, hb]; rfl
                      have Hv := Lib.hid hv
                      have Hi := Lib.hid hi
                      rw [hb] at d3
                      clear hv hi hb
                      go_wp2_with fail
                      refine (Hbr.out _).mono ?_
                      rintro e w2 ⟨rfl, rfl⟩
                      rw [Hi.out]
                      go_wp2_with fail
                      go_meet
                      rw [Hv.out]
                      exact ⟨rfl, rfl⟩
                    · replace hb : t.branded = false := by simpa using hb
                      rw [hb] at d3
                      by_cases h1 : strEq t.brand ByteArray.empty = true
                      · have q1 : t.brand.toList.isEmpty = true := by rw [isEmpty_strEq]; exact h1
                        have r1 : t.brand.toList = [] := by simpa using q1
                        have hv : brandingB t = true := by unfold brandingB; rw [hi, hb]; simpa using h1
                        have Hv := Lib.hid hv
                        have Hi := Lib.hid hi
                        clear hv hi hb h1
                        go_wp2_with fail
                        refine (Hbr.out _).mono ?_
                        rintro e w2 ⟨rfl, rfl⟩
                        rw [Hi.out]
                        go_wp2_with fail
                        go_meet
                        rw [Hv.out]
                        exact ⟨rfl, rfl⟩
                      · have q1 : t.brand.toList.isEmpty = false := by rw [isEmpty_strEq]; simpa using h1
                        have r1 : ¬ t.brand.toList = [] := by simpa using q1
                        have hv : brandingB t = false := by unfold brandingB; rw [hi, hb]; simpa using h1
                        have Hv := Lib.hid hv
                        have Hi := Lib.hid hi
                        clear hv hi hb h1
                        go_wp2_with fail
                        refine (Hbr.out _).mono ?_
                        rintro e w2 ⟨rfl, rfl⟩
                        rw [Hi.out]
                        go_wp2_with fail
                        go_meet
                        rw [Hv.out]
                        exact ⟨rfl, rfl⟩
              case rest =>
                obtain ⟨rfl, rfl⟩ := hcut
                obtain ⟨w1, rfl⟩ : ∃ w1 : World, w1 = wc := ⟨_, rfl⟩
                have d0 := Hbx.out.at.c0
                go_upto_if 63 with fail
                go_cut [63] (fun s wx => s = .bool (simpleB t.kind) ∧ wx = w1)
                case first =>
                  as_aux_lemma =>
                    clear d0
                    obtain ⟨d0, d1, d2, d3, d4, d5, d6, d7, d8, d9⟩ := Hbx.out.at
                    simp only [Nat.zero_add] at d0 d1 d2 d3 d4 d5 d6 d7 d8 d9
                    by_cases h1 : t.kind = 1
                    · have q1 : (t.kind == 1) = true := by simpa using h1
                      have hv : simpleB t.kind = true := decide_eq_true (by omega)
                      have Hv := Lib.hid hv
                      clear hv h1
                      go_wp2_with fail
                      go_meet
                      rw [Hv.out]
                      first | exact ⟨rfl, rfl⟩ | exact ⟨by simp only [*], rfl⟩
                    · have q1 : (t.kind == 1) = false := by simpa using h1
                      by_cases h2 : t.kind = 2
                      · have q2 : (t.kind == 2) = true := by simpa using h2
                        have hv : simpleB t.kind = true := decide_eq_true (by omega)
                        have Hv := Lib.hid hv
                        clear hv h2 h1
                        go_wp2_with fail
                        go_meet
                        rw [Hv.out]
                        first | exact ⟨rfl, rfl⟩ | exact ⟨by simp only [*], rfl⟩
                      · have q2 : (t.kind == 2) = false := by simpa using h2
                        by_cases h4 : t.kind = 4
                        · have q4 : (t.kind == 4) = true := by simpa using h4
                          have hv : simpleB t.kind = true := decide_eq_true (by omega)
                          have Hv := Lib.hid hv
                          clear hv h4 h1 h2
                          go_wp2_with fail
                          go_meet
                          rw [Hv.out]
                          first | exact ⟨rfl, rfl⟩ | exact ⟨by simp only [*], rfl⟩
                        · have q4 : (t.kind == 4) = false := by simpa using h4
                          by_cases h5 : t.kind = 5
                          · have q5 : (t.kind == 5) = true := by simpa using h5
                            have hv : simpleB t.kind = true := decide_eq_true (by omega)
                            have Hv := Lib.hid hv
                            clear hv h5 h1 h2 h4
                            go_wp2_with fail
                            go_meet
                            rw [Hv.out]
                            first | exact ⟨rfl, rfl⟩ | exact ⟨by simp only [*], rfl⟩
                          · have q5 : (t.kind == 5) = false := by simpa using h5
                            by_cases h6 : t.kind = 6
                            · have q6 : (t.kind == 6) = true := by simpa using h6
                              have hv : simpleB t.kind = true := decide_eq_true (by omega)
                              have Hv := Lib.hid hv
                              clear hv h6 h1 h2 h4 h5
                              go_wp2_with fail
                              go_meet
                              rw [Hv.out]
                              first | exact ⟨rfl, rfl⟩ | exact ⟨by simp only [*], rfl⟩
                            · have q6 : (t.kind == 6) = false := by simpa using h6
                              by_cases h7 : t.kind = 7
                              · have q7 : (t.kind == 7) = true := by simpa using h7
                                have hv : simpleB t.kind = true := decide_eq_true (by omega)
                                have Hv := Lib.hid hv
                                clear hv h7 h1 h2 h4 h5 h6
                                go_wp2_with fail
                                go_meet
                                rw [Hv.out]
                                first | exact ⟨rfl, rfl⟩ | exact ⟨by simp only [*], rfl⟩
                              · have q7 : (t.kind == 7) = false := by simpa using h7
                                by_cases h8 : t.kind = 8
                                · have q8 : (t.kind == 8) = true := by simpa using h8
                                  have hv : simpleB t.kind = true := decide_eq_true (by omega)
                                  have Hv := Lib.hid hv
                                  clear hv h8 h1 h2 h4 h5 h6 h7
                                  go_wp2_with fail
                                  go_meet
                                  rw [Hv.out]
                                  first | exact ⟨rfl, rfl⟩ | exact ⟨by simp only [*], rfl⟩
                                · have q8 : (t.kind == 8) = false := by simpa using h8
                                  have hv : simpleB t.kind = false := decide_eq_false (by omega)
                                  have Hv := Lib.hid hv
                                  clear hv h1 h2 h4 h5 h6 h7 h8
                                  go_wp2_with fail
                                  go_meet
                                  rw [Hv.out]
                                  first | exact ⟨rfl, rfl⟩ | exact ⟨by simp only [*], rfl⟩
                case rest =>
                  obtain ⟨rfl, rfl⟩ := hcut
                  obtain ⟨w1, rfl⟩ : ∃ w1 : World, w1 = wc := ⟨_, rfl⟩
                  cases hsk : simpleB t.kind with
                  | true =>
                    as_aux_lemma =>
                    have hv := said_simple (g := g) hsk
                    generalize numsB t = b5 at *
                    generalize brandlessB t = b6 at *
                    generalize topB t = b7 at *
                    generalize bareB t = b8 at *
                    generalize plainsB t = b9 at *
                    generalize clearB t = b10 at *
                    have Hv := Lib.hid hv
                    clear hv hsk
                    cases b5 with
                    | false =>
                      go_wp2_with fail
                      go_ret
                      rw [Hv.out]
                      exact ⟨rfl, Hx0.out⟩
                    | true =>
                      cases b6 with
                      | false =>
                        go_wp2_with fail
                        go_ret
                        rw [Hv.out]
                        exact ⟨rfl, Hx0.out⟩
                      | true =>
                        cases b7 with
                        | false =>
                          go_wp2_with fail
                          go_ret
                          rw [Hv.out]
                          exact ⟨rfl, Hx0.out⟩
                        | true =>
                          cases b8 with
                          | false =>
                            go_wp2_with fail
                            go_ret
                            rw [Hv.out]
                            exact ⟨rfl, Hx0.out⟩
                          | true =>
                            cases b9 with
                            | false =>
                              go_wp2_with fail
                              go_ret
                              rw [Hv.out]
                              exact ⟨rfl, Hx0.out⟩
                            | true =>
                              cases b10 with
                              | false =>
                                go_wp2_with fail
                                go_ret
                                rw [Hv.out]
                                exact ⟨rfl, Hx0.out⟩
                              | true =>
                                go_wp2_with fail
                                go_ret
                                rw [Hv.out]
                                exact ⟨rfl, Hx0.out⟩
                  | false =>
                    by_cases h3 : t.kind = 3
                    · as_aux_lemma =>
                      have q3 : (t.kind == 3) = true := by simpa using h3
                      have hv : saidB g t = (decide (-1000000000 ≤ t.low) && (decide (t.low ≤ t.high) && (decide (t.high ≤ 1000000000) && (brandlessB t && (topB t && (bareB t && (plainsB t && clearB t))))))) := by unfold saidB; rw [if_pos h3]
                      generalize brandlessB t = b6 at *
                      generalize topB t = b7 at *
                      generalize bareB t = b8 at *
                      generalize plainsB t = b9 at *
                      generalize clearB t = b10 at *
                      generalize hk1 : decide (-1000000000 ≤ t.low) = k1 at hv
                      generalize hk2 : decide (t.low ≤ t.high) = k2 at hv
                      generalize hk3 : decide (t.high ≤ 1000000000) = k3 at hv
                      have Hv := Lib.hid hv
                      have Hk1 := Lib.hid hk1
                      have Hk2 := Lib.hid hk2
                      have Hk3 := Lib.hid hk3
                      clear hv hk1 hk2 hk3 h3 hsk d0
                      obtain ⟨d0, d1, d2, d3, d4, d5, d6, d7, d8, d9⟩ := Hbx.out.at
                      simp only [Nat.zero_add] at d0 d1 d2 d3 d4 d5 d6 d7 d8 d9
                      cases k1 with
                      | false =>
                        have p1 := of_decide_eq_false Hk1.out
                        go_wp2_with fail
                        go_ret
                        rw [Hv.out]
                        exact ⟨rfl, Hx0.out⟩
                      | true =>
                        have p1 := of_decide_eq_true Hk1.out
                        cases k2 with
                        | false =>
                          have p2 := of_decide_eq_false Hk2.out
                          go_wp2_with fail
                          go_ret
                          rw [Hv.out]
                          exact ⟨rfl, Hx0.out⟩
                        | true =>
                          have p2 := of_decide_eq_true Hk2.out
                          cases k3 with
                          | false =>
                            have p3 := of_decide_eq_false Hk3.out
                            go_wp2_with fail
                            go_ret
                            rw [Hv.out]
                            exact ⟨rfl, Hx0.out⟩
                          | true =>
                            have p3 := of_decide_eq_true Hk3.out
                            cases b6 with
                            | false =>
                              go_wp2_with fail
                              go_ret
                              rw [Hv.out]
                              exact ⟨rfl, Hx0.out⟩
                            | true =>
                              cases b7 with
                              | false =>
                                go_wp2_with fail
                                go_ret
                                rw [Hv.out]
                                exact ⟨rfl, Hx0.out⟩
                              | true =>
                                cases b8 with
                                | false =>
                                  go_wp2_with fail
                                  go_ret
                                  rw [Hv.out]
                                  exact ⟨rfl, Hx0.out⟩
                                | true =>
                                  cases b9 with
                                  | false =>
                                    go_wp2_with fail
                                    go_ret
                                    rw [Hv.out]
                                    exact ⟨rfl, Hx0.out⟩
                                  | true =>
                                    cases b10 with
                                    | false =>
                                      go_wp2_with fail
                                      go_ret
                                      rw [Hv.out]
                                      exact ⟨rfl, Hx0.out⟩
                                    | true =>
                                      go_wp2_with fail
                                      go_ret
                                      rw [Hv.out]
                                      exact ⟨rfl, Hx0.out⟩
                    have q3 : (t.kind == 3) = false := by simpa using h3
                    have H3 := Lib.hid h3
                    have Hsk := Lib.hid hsk
                    clear h3 hsk
                    go_upto_if 119 with fail
                    go_cut [119] (fun s wx => s = .bool (heldK t.kind) ∧ wx = w1)
                    case first =>
                      as_aux_lemma =>
                        clear d0
                        obtain ⟨d0, d1, d2, d3, d4, d5, d6, d7, d8, d9⟩ := Hbx.out.at
                        simp only [Nat.zero_add] at d0 d1 d2 d3 d4 d5 d6 d7 d8 d9
                        by_cases h9 : t.kind = 9
                        · have q9 : (t.kind == 9) = true := by simpa using h9
                          have hv : heldK t.kind = true := decide_eq_true (by omega)
                          have Hv := Lib.hid hv
                          clear hv h9
                          go_wp2_with fail
                          go_meet
                          rw [Hv.out]
                          first | exact ⟨rfl, rfl⟩ | exact ⟨by simp only [*], rfl⟩
                        · have q9 : (t.kind == 9) = false := by simpa using h9
                          by_cases h11 : t.kind = 11
                          · have q11 : (t.kind == 11) = true := by simpa using h11
                            have hv : heldK t.kind = true := decide_eq_true (by omega)
                            have Hv := Lib.hid hv
                            clear hv h9 h11
                            go_wp2_with fail
                            go_meet
                            rw [Hv.out]
                            first | exact ⟨rfl, rfl⟩ | exact ⟨by simp only [*], rfl⟩
                          · have q11 : (t.kind == 11) = false := by simpa using h11
                            have hv : heldK t.kind = false := decide_eq_false (by omega)
                            have Hv := Lib.hid hv
                            clear hv h9 h11
                            go_wp2_with fail
                            go_meet
                            rw [Hv.out]
                            first | exact ⟨rfl, rfl⟩ | exact ⟨by simp only [*], rfl⟩
                    case rest =>
                      obtain ⟨rfl, rfl⟩ := hcut
                      obtain ⟨w1, rfl⟩ : ∃ w1 : World, w1 = wc := ⟨_, rfl⟩
                      cases hh : heldK t.kind with
                      | true =>
                        have hv : saidB g t = (numsB t && (brandingB t && (topB t && (oneB g.length t && (plainsB t && clearB t))))) := by unfold saidB; rw [if_neg H3.out, if_pos (of_decide_eq_true hh)]
                        have Hh := Lib.hid hh
                        clear hh
                        have Hv := Lib.hid hv
                        clear hv
                        go_upto_region 21 with fail
                        go_cut [12] (fun s wx => s = .bool (oneB g.length t) ∧ wx = w1)
                        case first =>
                          as_aux_lemma =>
                            clear d0
                            obtain ⟨d0, d1, d2, d3, d4, d5, d6, d7, d8, d9⟩ := Hbx.out.at
                            simp only [Nat.zero_add] at d0 d1 d2 d3 d4 d5 d6 d7 d8 d9
                            clear Hv
                            by_cases h1 : t.parts.length = 1
                            · have q1 : ((t.parts.length : Int) == 1) = true := by rw [beq_iff_eq]; omega
                              have hl1 : t.parts.length = 1 := h1
                              obtain ⟨pb, po, eA, p0, p1⟩ := Hp.out 0 (by omega)
                              subst eA
                              replace p0 := Hx0.out.cell p0
                              replace p1 := Hx0.out.cell p1
                              simp only [Nat.zero_mul, Nat.add_zero] at p0 p1
                              have lp := cell_lt p0
                              have hhd : t.parts.head? = some (t.parts[0]'(by omega)) := by rw [List.head?_eq_getElem?, List.getElem?_eq_getElem (by omega)]
                              have hone : oneB g.length t = (strEq (t.parts[0]'(by omega)).name ByteArray.empty && hasB g.length (t.parts[0]'(by omega)).type) := by unfold oneB; rw [hhd, decide_eq_true h1]; rfl
                              have Hone := Lib.hid hone
                              clear hone hhd hl1
                              generalize (t.parts[0]'(by omega)) = pt at *
                              have hlt1 : (0 : Int) < (t.parts.length : Int) := by omega
                              have hlt2 : 0 < t.parts.length := by omega
                              clear h1
                              by_cases h2 : strEq pt.name ByteArray.empty = true
                              · have q2 : pt.name.toList.isEmpty = true := by rw [isEmpty_strEq]; exact h2
                                have r2 : pt.name.toList = [] := by simpa using q2
                                by_cases h3 : 0 ≤ pt.type
                                · by_cases h4 : pt.type < (g.length : Int)
                                  · have hv : oneB g.length t = true := by rw [Hone.out, h2, hasB_iff.2 ⟨h3, h4⟩]; rfl
                                    have Hv := Lib.hid hv
                                    clear hv h2
                                    go_wp2_with fail
                                    go_meet
                                    rw [Hv.out]
                                    exact ⟨rfl, rfl⟩
                                  · have hv : oneB g.length t = false := by rw [Hone.out, h2, hasB_out (by omega)]; rfl
                                    have Hv := Lib.hid hv
                                    clear hv h2
                                    go_wp2_with fail
                                    go_meet
                                    rw [Hv.out]
                                    exact ⟨rfl, rfl⟩
                                · have hv : oneB g.length t = false := by rw [Hone.out, h2, hasB_out (by omega)]; rfl
                                  have Hv := Lib.hid hv
                                  clear hv h2
                                  go_wp2_with fail
                                  go_meet
                                  rw [Hv.out]
                                  exact ⟨rfl, rfl⟩
                              · have q2 : pt.name.toList.isEmpty = false := by rw [isEmpty_strEq]; simpa using h2
                                have r2 : ¬ pt.name.toList = [] := by simpa using q2
                                have hv : oneB g.length t = false := by rw [Hone.out]; simp [h2]
                                have Hv := Lib.hid hv
                                clear hv h2
                                go_wp2_with fail
                                go_meet
                                rw [Hv.out]
                                exact ⟨rfl, rfl⟩
                            · have q1 : ((t.parts.length : Int) == 1) = false := by rw [beq_eq_false_iff_ne]; omega
                              have hv : oneB g.length t = false := by unfold oneB; rw [decide_eq_false h1]; rfl
                              have Hv := Lib.hid hv
                              clear hv h1
                              go_wp2_with fail
                              go_meet
                              rw [Hv.out]
                              exact ⟨rfl, rfl⟩
                        case rest =>
                          obtain ⟨rfl, rfl⟩ := hcut
                          obtain ⟨w1, rfl⟩ : ∃ w1 : World, w1 = wc := ⟨_, rfl⟩
                          have hv := Hv.out
                          clear Hv
                          generalize numsB t = b5 at *
                          generalize brandingB t = b11 at *
                          generalize topB t = b7 at *
                          generalize oneB g.length t = b12 at *
                          generalize plainsB t = b9 at *
                          generalize clearB t = b10 at *
                          have Hv := Lib.hid hv
                          clear hv
                          cases b5 with
                          | false =>
                            go_wp2_with fail
                            go_ret
                            rw [Hv.out]
                            exact ⟨rfl, Hx0.out⟩
                          | true =>
                            cases b11 with
                            | false =>
                              go_wp2_with fail
                              go_ret
                              rw [Hv.out]
                              exact ⟨rfl, Hx0.out⟩
                            | true =>
                              cases b7 with
                              | false =>
                                go_wp2_with fail
                                go_ret
                                rw [Hv.out]
                                exact ⟨rfl, Hx0.out⟩
                              | true =>
                                cases b12 with
                                | false =>
                                  go_wp2_with fail
                                  go_ret
                                  rw [Hv.out]
                                  exact ⟨rfl, Hx0.out⟩
                                | true =>
                                  cases b9 with
                                  | false =>
                                    go_wp2_with fail
                                    go_ret
                                    rw [Hv.out]
                                    exact ⟨rfl, Hx0.out⟩
                                  | true =>
                                    cases b10 with
                                    | false =>
                                      go_wp2_with fail
                                      go_ret
                                      rw [Hv.out]
                                      exact ⟨rfl, Hx0.out⟩
                                    | true =>
                                      go_wp2_with fail
                                      go_ret
                                      rw [Hv.out]
                                      exact ⟨rfl, Hx0.out⟩
                      | false =>
                        have H9 := Lib.hid hh
                        clear hh
                        by_cases h10 : t.kind = 10
                        · as_aux_lemma =>
                          have q10 : (t.kind == 10) = true := by simpa using h10
                          have hv : saidB g t = (numsB t && (brandingB t && (topB t && (decide (1 ≤ t.parts.length) && (partsB g.length t.parts && (plainsB t && clearB t)))))) := by unfold saidB; rw [if_neg H3.out, if_neg (of_decide_eq_false H9.out), if_pos h10]
                          generalize numsB t = b5 at *
                          generalize brandingB t = b11 at *
                          generalize topB t = b7 at *
                          generalize plainsB t = b9 at *
                          generalize clearB t = b10 at *
                          generalize partsB g.length t.parts = bp at hv Hpt
                          generalize hk1 : decide (1 ≤ t.parts.length) = k1 at hv
                          have Hv := Lib.hid hv
                          have Hk1 := Lib.hid hk1
                          clear hv hk1 h10 d0
                          obtain ⟨d0, d1, d2, d3, d4, d5, d6, d7, d8, d9⟩ := Hbx.out.at
                          simp only [Nat.zero_add] at d0 d1 d2 d3 d4 d5 d6 d7 d8 d9
                          cases b5 with
                          | false =>
                            go_wp2_with fail
                            go_ret
                            rw [Hv.out]
                            exact ⟨rfl, Hx0.out⟩
                          | true =>
                            cases b11 with
                            | false =>
                              go_wp2_with fail
                              go_ret
                              rw [Hv.out]
                              exact ⟨rfl, Hx0.out⟩
                            | true =>
                              cases b7 with
                              | false =>
                                go_wp2_with fail
                                go_ret
                                rw [Hv.out]
                                exact ⟨rfl, Hx0.out⟩
                              | true =>
                                cases k1 with
                                | false =>
                                  have p1 := of_decide_eq_false Hk1.out
                                  have pz : ¬ (1 : Int) ≤ (t.parts.length : Int) := by omega
                                  go_wp2_with fail
                                  go_ret
                                  rw [Hv.out]
                                  exact ⟨rfl, Hx0.out⟩
                                | true =>
                                  have p1 := of_decide_eq_true Hk1.out
                                  have pz : (1 : Int) ≤ (t.parts.length : Int) := by omega
                                  go_wp2_with fail
                                  refine (Hpt.out _ (Hx0.out)).mono ?_
                                  rintro e w14 ⟨rfl, hx14⟩
                                  have Hx14 := Lib.hid hx14
                                  clear hx14 d0 d1 d2 d3 d4 d5 d6 d7 d8 d9
                                  have hbw := Hbx.out.ext (Hx14.out)
                                  obtain ⟨d0, d1, d2, d3, d4, d5, d6, d7, d8, d9⟩ := hbw.at
                                  simp only [Nat.zero_add] at d0 d1 d2 d3 d4 d5 d6 d7 d8 d9
                                  have l14 := hbw.lt
                                  clear hbw
                                  cases bp with
                                  | false =>
                                    go_wp2_with fail
                                    go_ret
                                    rw [Hv.out]
                                    exact ⟨rfl, (Hx0.out).trans Hx14.out⟩
                                  | true =>
                                    cases b9 with
                                    | false =>
                                      go_wp2_with fail
                                      go_ret
                                      rw [Hv.out]
                                      exact ⟨rfl, (Hx0.out).trans Hx14.out⟩
                                    | true =>
                                      cases b10 with
                                      | false =>
                                        go_wp2_with fail
                                        go_ret
                                        rw [Hv.out]
                                        exact ⟨rfl, (Hx0.out).trans Hx14.out⟩
                                      | true =>
                                        go_wp2_with fail
                                        go_ret
                                        rw [Hv.out]
                                        exact ⟨rfl, (Hx0.out).trans Hx14.out⟩
                        have q10 : (t.kind == 10) = false := by simpa using h10
                        have H10 := Lib.hid h10
                        clear h10
                        by_cases h12 : t.kind = 12
                        · as_aux_lemma =>
                          have q12 : (t.kind == 12) = true := by simpa using h12
                          have hv : saidB g t = (numsB t && (brandingB t && (overB g t.super kindsObject && (partsB g.length t.parts && (methsB g.length t && clearB t))))) := by unfold saidB; rw [if_neg H3.out, if_neg (of_decide_eq_false H9.out), if_neg H10.out, if_pos h12]
                          have hsu := Hsup.out
                          rw [if_neg (by omega)] at hsu
                          clear Hsup
                          generalize numsB t = b5 at *
                          generalize brandingB t = b11 at *
                          generalize clearB t = b10 at *
                          generalize partsB g.length t.parts = bp at hv Hpt
                          generalize methsB g.length t = bm at hv Hmt
                          generalize overB g t.super kindsObject = bo at hv hsu
                          have Hv := Lib.hid hv
                          have Hsu := Lib.hid hsu
                          clear hv hsu h12 d0
                          obtain ⟨d0, d1, d2, d3, d4, d5, d6, d7, d8, d9⟩ := Hbx.out.at
                          simp only [Nat.zero_add] at d0 d1 d2 d3 d4 d5 d6 d7 d8 d9
                          cases b5 with
                          | false =>
                            go_wp2_with fail
                            go_ret
                            rw [Hv.out]
                            exact ⟨rfl, Hx0.out⟩
                          | true =>
                            cases b11 with
                            | false =>
                              go_wp2_with fail
                              go_ret
                              rw [Hv.out]
                              exact ⟨rfl, Hx0.out⟩
                            | true =>
                              go_wp2_with fail
                              refine (Hsu.out _ (Hx0.out)).mono ?_
                              rintro e w12 ⟨rfl, hx12⟩
                              have Hx12 := Lib.hid hx12
                              clear hx12 d0 d1 d2 d3 d4 d5 d6 d7 d8 d9
                              have hbw := Hbx.out.ext (Hx12.out)
                              obtain ⟨d0, d1, d2, d3, d4, d5, d6, d7, d8, d9⟩ := hbw.at
                              simp only [Nat.zero_add] at d0 d1 d2 d3 d4 d5 d6 d7 d8 d9
                              have l12 := hbw.lt
                              clear hbw
                              cases bo with
                              | false =>
                                go_wp2_with fail
                                go_ret
                                rw [Hv.out]
                                exact ⟨rfl, (Hx0.out).trans Hx12.out⟩
                              | true =>
                                go_wp2_with fail
                                refine (Hpt.out _ ((Hx0.out).trans Hx12.out)).mono ?_
                                rintro e w13 ⟨rfl, hx13⟩
                                have Hx13 := Lib.hid hx13
                                clear hx13 d0 d1 d2 d3 d4 d5 d6 d7 d8 d9
                                have hbw := Hbx.out.ext (Hx12.out.trans Hx13.out)
                                obtain ⟨d0, d1, d2, d3, d4, d5, d6, d7, d8, d9⟩ := hbw.at
                                simp only [Nat.zero_add] at d0 d1 d2 d3 d4 d5 d6 d7 d8 d9
                                have l13 := hbw.lt
                                clear hbw
                                cases bp with
                                | false =>
                                  go_wp2_with fail
                                  go_ret
                                  rw [Hv.out]
                                  exact ⟨rfl, ((Hx0.out).trans Hx12.out).trans Hx13.out⟩
                                | true =>
                                  go_wp2_with fail
                                  refine (Hmt.out _ (((Hx0.out).trans Hx12.out).trans Hx13.out)).mono ?_
                                  rintro e w14 ⟨rfl, hx14⟩
                                  have Hx14 := Lib.hid hx14
                                  clear hx14 d0 d1 d2 d3 d4 d5 d6 d7 d8 d9
                                  have hbw := Hbx.out.ext ((Hx12.out.trans Hx13.out).trans Hx14.out)
                                  obtain ⟨d0, d1, d2, d3, d4, d5, d6, d7, d8, d9⟩ := hbw.at
                                  simp only [Nat.zero_add] at d0 d1 d2 d3 d4 d5 d6 d7 d8 d9
                                  have l14 := hbw.lt
                                  clear hbw
                                  cases bm with
                                  | false =>
                                    go_wp2_with fail
                                    go_ret
                                    rw [Hv.out]
                                    exact ⟨rfl, (((Hx0.out).trans Hx12.out).trans Hx13.out).trans Hx14.out⟩
                                  | true =>
                                    cases b10 with
                                    | false =>
                                      go_wp2_with fail
                                      go_ret
                                      rw [Hv.out]
                                      exact ⟨rfl, (((Hx0.out).trans Hx12.out).trans Hx13.out).trans Hx14.out⟩
                                    | true =>
                                      go_wp2_with fail
                                      go_ret
                                      rw [Hv.out]
                                      exact ⟨rfl, (((Hx0.out).trans Hx12.out).trans Hx13.out).trans Hx14.out⟩
                        have q12 : (t.kind == 12) = false := by simpa using h12
                        have H12 := Lib.hid h12
                        clear h12
                        by_cases h13 : t.kind = 13
                        · as_aux_lemma =>
                          have q13 : (t.kind == 13) = true := by simpa using h13
                          have hv : saidB g t = (numsB t && (brandlessB t && (overB g t.super kindsOpaque && (bareB t && (plainsB t && isSymbolB t.opaq))))) := by unfold saidB; rw [if_neg H3.out, if_neg (of_decide_eq_false H9.out), if_neg H10.out, if_neg H12.out, if_pos h13]
                          have hsu := Hsup.out
                          rw [if_pos h13] at hsu
                          clear Hsup
                          generalize numsB t = b5 at *
                          generalize brandlessB t = b6 at *
                          generalize bareB t = b8 at *
                          generalize plainsB t = b9 at *
                          generalize isSymbolB t.opaq = by_ at hv Hsy
                          generalize overB g t.super kindsOpaque = bo at hv hsu
                          have Hv := Lib.hid hv
                          have Hsu := Lib.hid hsu
                          clear hv hsu h13 d0
                          obtain ⟨d0, d1, d2, d3, d4, d5, d6, d7, d8, d9⟩ := Hbx.out.at
                          simp only [Nat.zero_add] at d0 d1 d2 d3 d4 d5 d6 d7 d8 d9
                          cases b5 with
                          | false =>
                            go_wp2_with fail
                            go_ret
                            rw [Hv.out]
                            exact ⟨rfl, Hx0.out⟩
                          | true =>
                            cases b6 with
                            | false =>
                              go_wp2_with fail
                              go_ret
                              rw [Hv.out]
                              exact ⟨rfl, Hx0.out⟩
                            | true =>
                              go_wp2_with fail
                              refine (Hsu.out _ Hx0.out).mono ?_
                              rintro e w12 ⟨rfl, hx12⟩
                              have Hx12 := Lib.hid hx12
                              clear hx12 d0 d1 d2 d3 d4 d5 d6 d7 d8 d9
                              have hbw := Hbx.out.ext Hx12.out
                              obtain ⟨d0, d1, d2, d3, d4, d5, d6, d7, d8, d9⟩ := hbw.at
                              simp only [Nat.zero_add] at d0 d1 d2 d3 d4 d5 d6 d7 d8 d9
                              have l12 := hbw.lt
                              clear hbw
                              cases bo with
                              | false =>
                                go_wp2_with fail
                                go_ret
                                rw [Hv.out]
                                exact ⟨rfl, Hx0.out.trans Hx12.out⟩
                              | true =>
                                cases b8 with
                                | false =>
                                  go_wp2_with fail
                                  go_ret
                                  rw [Hv.out]
                                  exact ⟨rfl, Hx0.out.trans Hx12.out⟩
                                | true =>
                                  cases b9 with
                                  | false =>
                                    go_wp2_with fail
                                    go_ret
                                    rw [Hv.out]
                                    exact ⟨rfl, Hx0.out.trans Hx12.out⟩
                                  | true =>
                                    go_wp2_with fail
                                    refine (Hsy.out _).mono ?_
                                    rintro e w13 ⟨rfl, rfl⟩
                                    go_wp2_with fail
                                    go_ret
                                    rw [Hv.out]
                                    exact ⟨rfl, Hx0.out.trans Hx12.out⟩
                        have q13 : (t.kind == 13) = false := by simpa using h13
                        have hv : saidB g t = false := said_none Hsk.out H3.out H9.out H10.out H12.out h13
                        have Hv := Lib.hid hv
                        clear hv h13
                        go_wp2_with fail
                        go_ret
                        rw [Hv.out]
                        exact ⟨rfl, Hx0.out⟩
end Go.Proofs.YtldnjnnhfeobdaaGreatDoor
/- Contracts of the reference: what is wrong with a graph; the first error of a graph and indices; Word. Conditions: a tidy graph. -/
namespace Go.Proofs.YtldnjnnhfeobdaaGreatDoor
set_option linter.all false
set_option linter.unusedSimpArgs false
set_option linter.unusedVariables false
open Go.RowKit Go.Shelf

set_option maxRecDepth 100000 in
set_option maxHeartbeats 8000000 in
theorem rcheck_any (w : World) (gv : Value) (g : Graph) (hg : Sl tyE w gv g) (hT : Tidy g) :
    Calls Tryz.prog 24 #[gv] w (Ret w (.tuple #[.int .i64 (checkG g).1, .int .i64 (checkG g).2])) := by
  have hlen := hT.len
  obtain ⟨A, cap, rfl, hs⟩ := hg.ty
  have hcall := fun (w' : World) (hx : Ext w w') (i : Nat) (hi : i < g.length) vp vm vo (hof : TyOf w g[i] vp vm vo) =>
    rsaid_any w' _ g g[i] vp vm vo (hg.mono hx) hlen (hof.mono hx) (hT.ty _ (List.getElem_mem hi)).1
  simp only [said_right] at hcall
  have Hcall := Lib.hid hcall
  have Hs := Lib.hid hs
  clear hcall hs hg hT
  obtain ⟨w0, rfl⟩ : ∃ w0 : World, w0 = w := ⟨_, rfl⟩
  by_cases h4 : 400 < g.length
  · have e : checkG g = (400, 30) := by unfold checkG; rw [if_pos h4]
    rw [e]
    have h4' : (400 : Int) < (g.length : Int) := by omega
    clear e Hcall Hs
    go_enter Tryz.func24, Tryz.ntmps24
    go_wp2_with fail
    go_ret2
    exact ⟨rfl, Ext.refl _⟩
  · have h4' : ¬ (400 : Int) < (g.length : Int) := by omega
    have H4 := Lib.hid h4
    clear h4
    go_enter Tryz.func24, Tryz.ntmps24
    go_wp2_with fail
    go_loopw [4] (fun i wr => ∃ k : Nat, k ≤ g.length ∧ i = .int .i64 k ∧ Hid (Ext w0 wr) ∧ Hid (∀ i (hi : i < g.length), i < k → rightB g g[i] = true)) (fun i _ => g.length - (intOf i).toNat)
    case atStart => exact ⟨0, by omega, by simp, Lib.hid (Ext.refl _), fun i _ h => by omega⟩
    case round =>
      obtain ⟨k, hk, rfl, Hxr, Hno⟩ := hrel
      by_cases hlt : k < g.length
      · obtain ⟨b, off, vp, vm, vo, rfl, hat, hof⟩ := Hs.out k hlt
        have hof' := Lib.hid hof
        obtain ⟨A1, c1, e1⟩ := hof.parts.len
        obtain ⟨A2, c2, e2⟩ := hof.methods.len
        obtain ⟨A3, c3, e3⟩ := hof.overs.len
        subst e1 e2 e3
        obtain ⟨d0, d1, d2, d3, d4, d5, d6, d7, d8, d9⟩ := hat.mono Hxr.out
        have l0 := cell_lt d0
        have hi0 : (0 : Int) ≤ (k : Int) := by omega
        have hi1 : (k : Int) < (g.length : Int) := by omega
        clear hat hof
        go_wp2_with fail
        refine (Hcall.out _ Hxr.out k hlt _ _ _ hof'.out).mono ?_
        rintro e w1 ⟨rfl, hx1⟩
        have Hx1 := Lib.hid (Hxr.out.trans hx1)
        clear d0 d1 d2 d3 d4 d5 d6 d7 d8 d9 hx1
        cases hr : rightB g g[k]
        · have e := Lib.hid (checkG_bad H4.out hlt Hno.out hr)
          clear hr
          go_wp2_with fail
          go_ret2
          exact ⟨by rw [e.out]; rfl, Hx1.out⟩
        · have Hr := Lib.hid hr
          clear hr
          go_wp2_with fail
          go_roundw
          case rel => exact ⟨k + 1, by omega, by go_num, Hx1, fun i h hi => by
              by_cases e : i = k
              · subst e; exact Hr.out
              · exact Hno.out i h (by omega)⟩
          case measure => simp [intOf]; omega
      · have Hall := Lib.hid (show ∀ i (hi : i < g.length), rightB g g[i] = true from fun i hi => Hno.out i hi (by omega))
        have Hmore := Lib.hid (fun j (hj : j < g.length) => cyc_more (g := g) (i := j) (fun t ht => by obtain ⟨i, hi, rfl⟩ := List.mem_iff_getElem.1 ht; exact Hall.out i hi) hj)
        clear Hno
        go_wp2_with fail
        clear hlt
        go_loopw [5] (fun i wq => ∃ k : Nat, k ≤ g.length ∧ i = .int .i64 k ∧ Hid (Ext w0 wq) ∧ Hid (∀ i, i < k → cycN g i g.length i = false)) (fun i _ => g.length - (intOf i).toNat)
        case atStart => exact ⟨0, by omega, by simp, Hxr, fun i h => by omega⟩
        case round =>
          clear Hxr
          obtain ⟨j, hj, rfl, Hxr, Hno⟩ := hrel
          by_cases hlt : j < g.length
          · have hj0 : (j : Int) < (g.length : Int) := by omega
            go_wp2_with fail
            obtain ⟨wo, rfl⟩ : ∃ wo : World, wo = wr := ⟨_, rfl⟩
            go_loopw [6, 7] (fun a i wq => ∃ n q : Nat, n ≤ g.length + 1 ∧ i = .int .i64 n ∧ q < g.length ∧ a = .int .i64 q ∧ wq = wo ∧ Hid (cycN g j (g.length + 1) j = cycN g j (g.length + 1 - n) q)) (fun _ i _ => g.length + 1 - (intOf i).toNat)
            case atStart => exact ⟨0, j, by omega, by simp, hlt, by simp, rfl, rfl⟩
            case round =>
              obtain ⟨n, q, hn, rfl, hq, rfl, rfl, Hcy⟩ := hrel
              by_cases hnl : n ≤ g.length
              · have hn1 : (n : Int) ≤ (g.length : Int) := by omega
                obtain ⟨b, off, vp, vm, vo, hA, hat, hof⟩ := Hs.out q hq
                subst hA
                have hat' := hat.mono Hxr.out
                have d0 := hat'.c0
                have d6 := hat'.c6
                have l0 := cell_lt d0
                have hi0 : (0 : Int) ≤ (q : Int) := by omega
                have hi1 : (q : Int) < (g.length : Int) := by omega
                have hgq := getT_lt hq
                clear hat hof hat'
                have hkind : (g[q].kind == 12) = true ∨ ((g[q].kind == 12) = false ∧ (g[q].kind == 13) = true) ∨ ((g[q].kind == 12) = false ∧ (g[q].kind == 13) = false) := by
                  cases (g[q].kind == 12) <;> cases (g[q].kind == 13) <;> simp
                have hsup : hasSuperB g[q].kind = (g[q].kind == 12 || g[q].kind == 13) := by
                  unfold hasSuperB
                  rw [Bool.eq_iff_iff]
                  simp
                have Hsup := Lib.hid hsup
                have Hfine := Lib.hid (fun h => (right_fine (Hall.out q hq)).super h)
                have Hgq := Lib.hid hgq
                clear hsup hgq
                by_cases hsk : (g[q].kind == 12 || g[q].kind == 13) = true
                · have hsg : hasSuperB (getT g q).kind = true := by rw [Hgq.out, Hsup.out]; exact hsk
                  obtain ⟨s0, s1⟩ := Hfine.out (Hsup.out.trans hsk)
                  have hse : superN g q = g[q].super.toNat := by unfold superN; rw [Hgq.out]
                  obtain ⟨m, hm⟩ := Int.eq_ofNat_of_zero_le s0
                  rw [hm] at d6 s1 hse
                  have hse' : superN g q = m := by rw [hse]; rfl
                  have hmlt : m < g.length := by omega
                  have hk2 : (g[q].kind == 12) = true ∨ ((g[q].kind == 12) = false ∧ (g[q].kind == 13) = true) := by
                    rcases hkind with h | h | h
                    · exact .inl h
                    · exact .inr h
                    · rw [h.1, h.2] at hsk; cases hsk
                  clear hkind hsk
                  by_cases hmj : m = j
                  · have e := Lib.hid (checkG_cyc H4.out Hall.out hlt Hno.out (by rw [← Hmore.out j hlt, Hcy.out]; exact cycN_hit (by omega) hsg (by rw [hse']; exact hmj)))
                    have hmj' : ((m : Int) == (j : Int)) = true := by rw [beq_iff_eq]; omega
                    have Hmj := Lib.hid hmj
                    clear hsg hse hse' hm hmj
                    rcases hk2 with hk | ⟨hk, hk'⟩
                    all_goals
                      go_wp2_with fail
                      go_ret2
                      exact ⟨by rw [e.out]; rfl, Hxr.out⟩
                  · have hmj' : ((m : Int) == (j : Int)) = false := by simp; omega
                    have Hc := Lib.hid (show cycN g j (g.length + 1) j = cycN g j (g.length + 1 - (n + 1)) m by
                      rw [Hcy.out, show g.length + 1 - n = (g.length + 1 - (n + 1)) + 1 by omega, cycN_go hsg (by rw [hse']; exact hmj), hse'])
                    clear hsg hse hse' hm hmj
                    rcases hk2 with hk | ⟨hk, hk'⟩
                    all_goals
                      go_wp2_with fail
                      go_roundw
                      case rel => exact ⟨n + 1, m, by omega, by go_num, hmlt, rfl, trivial, Hc⟩
                      case measure => simp [intOf]; omega
                · have hk2 : (g[q].kind == 12) = false ∧ (g[q].kind == 13) = false := by
                    rcases hkind with h | h | h
                    · rw [h] at hsk; simp at hsk
                    · rw [h.1, h.2] at hsk; simp at hsk
                    · exact h
                  obtain ⟨hk, hk'⟩ := hk2
                  have Hc := Lib.hid ((Hmore.out j hlt).symm.trans (Hcy.out.trans (cycN_stop (by rw [Hgq.out, Hsup.out, hk, hk']; rfl))))
                  clear hsk hkind
                  go_wp2_with fail
                  go_roundw
                  case rel => exact ⟨j + 1, by omega, by go_num, Hxr, fun i h => by
                      by_cases e : i = j
                      · subst e; exact Hc.out
                      · exact Hno.out i (by omega)⟩
                  case measure => simp [intOf]; omega
              · have hn1 : ¬ (n : Int) ≤ (g.length : Int) := by omega
                have Hc := Lib.hid ((Hmore.out j hlt).symm.trans (Hcy.out.trans (by rw [show g.length + 1 - n = 0 by omega, cycN])))
                go_wp2_with fail
                go_roundw
                case rel => exact ⟨j + 1, by omega, by go_num, Hxr, fun i h => by
                    by_cases e : i = j
                    · subst e; exact Hc.out
                    · exact Hno.out i (by omega)⟩
                case measure => simp [intOf]; omega
          · have e := Lib.hid (checkG_fine H4.out Hall.out (fun i hi => Hno.out i (by omega)))
            go_wp2_with fail
            go_ret2
            exact ⟨by rw [e.out]; rfl, Hxr.out⟩
theorem errG_in {g : Graph} {ats : List Int} {k : Nat} (h0 : (checkG g).2 = 0) (hk : k < ats.length) (h : ats[k] < 0 ∨ (g.length : Int) ≤ ats[k]) : errG g ats = 1 := by
  unfold errG
  rw [if_pos h0, if_pos]
  rw [List.any_eq_true]
  exact ⟨ats[k], List.getElem_mem hk, by unfold outB; rw [hasB_out (by omega)]; rfl⟩
set_option maxRecDepth 100000 in
set_option maxHeartbeats 8000000 in
theorem rchecked_any (w : World) (gv v : Value) (g : Graph) (ats : List Int) (hg : Sl tyE w gv g) (hT : Tidy g) (hv : Sl intE w v ats) (hn : ats.length ≤ 1048576) :
    Calls Tryz.prog 57 #[gv, v] w (Ret w (.int .i64 (errG g ats))) := by
  have hlen := hT.len
  have Hc := Lib.hid (rcheck_any w gv g hg hT)
  obtain ⟨A, cap, eA⟩ := hg.len
  subst eA
  obtain ⟨B, cb, eB, hs⟩ := hv.int
  subst eB
  have Hs := Lib.hid hs
  clear hg hT hv hs
  obtain ⟨w0, rfl⟩ : ∃ w0 : World, w0 = w := ⟨_, rfl⟩
  by_cases h0 : (checkG g).2 = 0
  · have hbad := fun (k : Nat) (hk : k < ats.length) h => errG_in (ats := ats) (k := k) h0 hk h
    have hgood := fun (h : ∀ j (hj : j < ats.length), 0 ≤ ats[j] ∧ ats[j] < g.length) => errG_of (checkG_ok.1 h0) (fun a ha => by obtain ⟨j, hj, rfl⟩ := List.mem_iff_getElem.1 ha; exact h j hj)
    have Hbad := Lib.hid hbad
    have Hgood := Lib.hid hgood
    have H0 := Lib.hid h0
    clear hbad hgood h0
    go_enter Tryz.func57, Tryz.ntmps57
    go_wp2_with fail
    refine Hc.out.mono ?_
    rintro e w1 ⟨rfl, hx1⟩
    rw [H0.out]
    have Hx1 := Lib.hid hx1
    clear hx1
    go_wp2_with fail
    go_loopw [7] (fun u wr => ∃ k : Nat, k ≤ ats.length ∧ u = .int .i64 k ∧ wr = w1 ∧ Hid (∀ j (hj : j < ats.length), j < k → 0 ≤ ats[j] ∧ ats[j] < g.length)) (fun u _ => ats.length - (intOf u).toNat)
    case atStart => exact ⟨0, by omega, rfl, rfl, Lib.hid (fun j _ h => by omega)⟩
    case round =>
      obtain ⟨k, hk, rfl, rfl, Hno⟩ := hrel
      by_cases hlt : k < ats.length
      · obtain ⟨b, off, rfl, a0⟩ := Hs.out k hlt
        replace a0 := Hx1.out.cell a0
        have la := cell_lt a0
        have i0 : (0 : Int) ≤ (k : Int) := by omega
        have i1 : (k : Int) < (ats.length : Int) := by omega
        have hbad := Hbad.out k hlt
        have hnext := fun (h : 0 ≤ ats[k] ∧ ats[k] < g.length) j (hj : j < ats.length) (hjk : j < k + 1) => if e : j = k then (by subst e; exact h : 0 ≤ ats[j] ∧ ats[j] < g.length) else Hno.out j hj (by omega)
        have Hb := Lib.hid hbad
        have Hnext := Lib.hid hnext
        clear hbad hnext
        generalize ats[k] = x at *
        by_cases c1 : x < 0
        · have Hv := Lib.hid (Hb.out (.inl c1))
          go_wp2_with fail
          go_ret
          rw [Hv.out]
          exact ⟨rfl, Hx1.out⟩
        · by_cases c2 : (g.length : Int) ≤ x
          · have Hv := Lib.hid (Hb.out (.inr c2))
            go_wp2_with fail
            go_ret
            rw [Hv.out]
            exact ⟨rfl, Hx1.out⟩
          · have Hn := Lib.hid (Hnext.out (by omega))
            go_wp2_with fail
            go_roundw
            case rel => exact ⟨k + 1, by omega, by go_num, trivial, Hn⟩
            case measure => simp [intOf]; omega
      · have Hv := Lib.hid (Hgood.out (fun j hj => Hno.out j hj (by omega)))
        have i1 : ¬ (k : Int) < (ats.length : Int) := by omega
        go_wp2_with fail
        go_ret
        rw [Hv.out]
        exact ⟨rfl, Hx1.out⟩
  · have hv : errG g ats = 30 := errG_bad h0
    have hne : ((checkG g).2 != 0) = true := by simpa using h0
    have hne2 : ((checkG g).2 == 0) = false := by simpa using h0
    have Hv := Lib.hid hv
    generalize (checkG g).2 = er at *
    clear hv h0
    go_enter Tryz.func57, Tryz.ntmps57
    go_wp2_with fail
    refine Hc.out.mono ?_
    rintro e w1 ⟨rfl, hx1⟩
    go_wp2_with fail
    go_ret
    rw [Hv.out]
    exact ⟨rfl, hx1⟩
end Go.Proofs.YtldnjnnhfeobdaaGreatDoor
/- Contract of the reference: two types agree at once. Conditions: lengths below 2^20. -/
namespace Go.Proofs.YtldnjnnhfeobdaaGreatDoor
set_option linter.all false
set_option linter.unusedSimpArgs false
set_option linter.unusedVariables false
open Go.RowKit Go.Shelf

theorem agree_no1 {x y : Ty} (h : plainEqB x y = false) : agreeT x y = false := by unfold agreeT; rw [h]; rfl
theorem agree_no2 {x y : Ty} (h : eqF partEq x.parts y.parts = false) : agreeT x y = false := by unfold agreeT; rw [h]; simp
theorem agree_no3 {x y : Ty} (h : eqF sameMethodB x.methods y.methods = false) : agreeT x y = false := by unfold agreeT; rw [h]; simp
theorem agree_no4 {x y : Ty} (h : eqF overEq x.overs y.overs = false) : agreeT x y = false := by unfold agreeT; rw [h]; simp
theorem agree_yes {x y : Ty} (h1 : plainEqB x y = true) (h2 : eqF partEq x.parts y.parts = true) (h3 : eqF sameMethodB x.methods y.methods = true) (h4 : eqF overEq x.overs y.overs = true) : agreeT x y = true := by
  unfold agreeT; rw [h1, h2, h3, h4]; rfl
set_option maxRecDepth 100000 in
set_option maxHeartbeats 16000000 in
theorem ragree_any (w : World) (x y : Ty) (xp xm xo yp ym yo : Value) (hx : TySmall x) (hy : TySmall y) (hox : TyOf w x xp xm xo) (hoy : TyOf w y yp ym yo) :
    Calls Tryz.prog 41 #[tyV x xp xm xo, tyV y yp ym yo] w (Ret w (.bool (agreeT x y))) := by
  obtain ⟨A1, a1, e1, xps⟩ := hox.parts.part
  obtain ⟨A2, a2, e2, xms⟩ := hox.methods.method
  obtain ⟨A3, a3, e3, xos⟩ := hox.overs.over
  subst e1 e2 e3
  obtain ⟨B1, b1, e1, yps⟩ := hoy.parts.part
  obtain ⟨B2, b2, e2, yms⟩ := hoy.methods.method
  obtain ⟨B3, b3, e3, yos⟩ := hoy.overs.over
  subst e1 e2 e3
  have Xps := Lib.hid xps
  have Xms := Lib.hid xms
  have Xos := Lib.hid xos
  have Yps := Lib.hid yps
  have Yms := Lib.hid yms
  have Yos := Lib.hid yos
  have Xmm := Lib.hid hx.method
  have Ymm := Lib.hid hy.method
  have q1 := hx.parts
  have q2 := hx.methods
  have q3 := hx.overs
  have q4 := hy.parts
  have q5 := hy.methods
  have q6 := hy.overs
  clear xps xms xos yps yms yos hox hoy hx hy
  unfold tyV
  by_cases h0 : x.kind = y.kind
  case neg =>
    as_aux_lemma =>
      have p0 : (x.kind != y.kind) = true := by simpa using h0
      have r0 : (x.kind == y.kind) = false := by simpa using h0
      have hv : agreeT x y = false := agree_no1 (by cases hb : plainEqB x y with | false => rfl | true => exact absurd (plainEqB_iff.1 hb).1 h0)
      have Hv := Lib.hid hv
      clear hv h0
      go_enter Tryz.func41, Tryz.ntmps41
      go_wp2_with fail
      go_ret
      rw [Hv.out]
      exact ⟨rfl, ((Ext.refl _).alloc _).alloc _⟩
  have p0 : (x.kind != y.kind) = false := by simpa using h0
  have r0 : (x.kind == y.kind) = true := by simpa using h0
  by_cases h1 : x.low = y.low
  case neg =>
    as_aux_lemma =>
      have p1 : (x.low != y.low) = true := by simpa using h1
      have r1 : (x.low == y.low) = false := by simpa using h1
      have hv : agreeT x y = false := agree_no1 (by cases hb : plainEqB x y with | false => rfl | true => exact absurd (plainEqB_iff.1 hb).2.1 h1)
      have Hv := Lib.hid hv
      clear hv h0 h1
      go_enter Tryz.func41, Tryz.ntmps41
      go_wp2_with fail
      go_ret
      rw [Hv.out]
      exact ⟨rfl, ((Ext.refl _).alloc _).alloc _⟩
  have p1 : (x.low != y.low) = false := by simpa using h1
  have r1 : (x.low == y.low) = true := by simpa using h1
  by_cases h2 : x.high = y.high
  case neg =>
    as_aux_lemma =>
      have p2 : (x.high != y.high) = true := by simpa using h2
      have r2 : (x.high == y.high) = false := by simpa using h2
      have hv : agreeT x y = false := agree_no1 (by cases hb : plainEqB x y with | false => rfl | true => exact absurd (plainEqB_iff.1 hb).2.2.1 h2)
      have Hv := Lib.hid hv
      clear hv h0 h1 h2
      go_enter Tryz.func41, Tryz.ntmps41
      go_wp2_with fail
      go_ret
      rw [Hv.out]
      exact ⟨rfl, ((Ext.refl _).alloc _).alloc _⟩
  have p2 : (x.high != y.high) = false := by simpa using h2
  have r2 : (x.high == y.high) = true := by simpa using h2
  by_cases h3 : x.branded = y.branded
  case neg =>
    as_aux_lemma =>
      have p3 : (x.branded != y.branded) = true := by simpa using h3
      have r3 : (x.branded == y.branded) = false := by simpa using h3
      have hv : agreeT x y = false := agree_no1 (by cases hb : plainEqB x y with | false => rfl | true => exact absurd (plainEqB_iff.1 hb).2.2.2.1 h3)
      have Hv := Lib.hid hv
      clear hv h0 h1 h2 h3
      go_enter Tryz.func41, Tryz.ntmps41
      go_wp2_with fail
      go_ret
      rw [Hv.out]
      exact ⟨rfl, ((Ext.refl _).alloc _).alloc _⟩
  have p3 : (x.branded != y.branded) = false := by simpa using h3
  have r3 : (x.branded == y.branded) = true := by simpa using h3
  by_cases h4 : x.brand = y.brand
  case neg =>
    as_aux_lemma =>
      have s4 : ¬ x.brand.toList = y.brand.toList := fun e => h4 (ba_toList_inj e)
      have p4 : (x.brand.toList != y.brand.toList) = true := by simpa using s4
      have r4 : (x.brand.toList == y.brand.toList) = false := by simpa using s4
      have hv : agreeT x y = false := agree_no1 (by cases hb : plainEqB x y with | false => rfl | true => exact absurd (plainEqB_iff.1 hb).2.2.2.2.1 h4)
      have Hv := Lib.hid hv
      clear hv h0 h1 h2 h3 h4
      go_enter Tryz.func41, Tryz.ntmps41
      go_wp2_with fail
      go_ret
      rw [Hv.out]
      exact ⟨rfl, ((Ext.refl _).alloc _).alloc _⟩
  have p4 : (x.brand.toList != y.brand.toList) = false := by rw [h4]; simp
  have r4 : (x.brand.toList == y.brand.toList) = true := by rw [h4]; simp
  by_cases h5 : x.opaq = y.opaq
  case neg =>
    as_aux_lemma =>
      have s5 : ¬ x.opaq.toList = y.opaq.toList := fun e => h5 (ba_toList_inj e)
      have p5 : (x.opaq.toList != y.opaq.toList) = true := by simpa using s5
      have r5 : (x.opaq.toList == y.opaq.toList) = false := by simpa using s5
      have hv : agreeT x y = false := agree_no1 (by cases hb : plainEqB x y with | false => rfl | true => exact absurd (plainEqB_iff.1 hb).2.2.2.2.2 h5)
      have Hv := Lib.hid hv
      clear hv h0 h1 h2 h3 h4 h5
      go_enter Tryz.func41, Tryz.ntmps41
      go_wp2_with fail
      go_ret
      rw [Hv.out]
      exact ⟨rfl, ((Ext.refl _).alloc _).alloc _⟩
  have p5 : (x.opaq.toList != y.opaq.toList) = false := by rw [h5]; simp
  have r5 : (x.opaq.toList == y.opaq.toList) = true := by rw [h5]; simp
  by_cases h6 : x.parts.length = y.parts.length
  case neg =>
    as_aux_lemma =>
      have p6 : ((x.parts.length : Int) != (y.parts.length : Int)) = true := by simp; omega
      have hv : agreeT x y = false := agree_no2 (eqF_len h6)
      have Hv := Lib.hid hv
      clear hv h0 h1 h2 h3 h4 h5 h6
      go_enter Tryz.func41, Tryz.ntmps41
      go_wp2_with fail
      go_ret
      rw [Hv.out]
      exact ⟨rfl, ((Ext.refl _).alloc _).alloc _⟩
  have p6 : ((x.parts.length : Int) != (y.parts.length : Int)) = false := by simp; omega
  by_cases h7 : x.methods.length = y.methods.length
  case neg =>
    as_aux_lemma =>
      have p7 : ((x.methods.length : Int) != (y.methods.length : Int)) = true := by simp; omega
      have hv : agreeT x y = false := agree_no3 (eqF_len h7)
      have Hv := Lib.hid hv
      clear hv h0 h1 h2 h3 h4 h5 h6 h7
      go_enter Tryz.func41, Tryz.ntmps41
      go_wp2_with fail
      go_ret
      rw [Hv.out]
      exact ⟨rfl, ((Ext.refl _).alloc _).alloc _⟩
  have p7 : ((x.methods.length : Int) != (y.methods.length : Int)) = false := by simp; omega
  by_cases h8 : x.overs.length = y.overs.length
  case neg =>
    as_aux_lemma =>
      have p8 : ((x.overs.length : Int) != (y.overs.length : Int)) = true := by simp; omega
      have hv : agreeT x y = false := agree_no4 (eqF_len h8)
      have Hv := Lib.hid hv
      clear hv h0 h1 h2 h3 h4 h5 h6 h7 h8
      go_enter Tryz.func41, Tryz.ntmps41
      go_wp2_with fail
      go_ret
      rw [Hv.out]
      exact ⟨rfl, ((Ext.refl _).alloc _).alloc _⟩
  have p8 : ((x.overs.length : Int) != (y.overs.length : Int)) = false := by simp; omega
  have hpl : plainEqB x y = true := plainEqB_iff.2 ⟨h0, h1, h2, h3, h4, h5⟩
  have Hpl := Lib.hid hpl
  have H6 := Lib.hid h6
  have H7 := Lib.hid h7
  have H8 := Lib.hid h8
  have le6 : x.parts.length ≤ y.parts.length := by omega
  have le7 : x.methods.length ≤ y.methods.length := by omega
  have le8 : x.overs.length ≤ y.overs.length := by omega
  clear hpl h0 h1 h2 h3 h4 h5 h6 h7 h8
  have hxw := (Ext.refl w).alloc (.cells #[.int .u8 x.kind, .int .i64 x.low, .int .i64 x.high, .bool x.branded, .string x.brand, .string x.opaq, .int .i64 x.super, .slice A1 x.parts.length a1, .slice A2 x.methods.length a2, .slice A3 x.overs.length a3] 42)
  have hbx : TyBox ((w.alloc (.cells #[.int .u8 x.kind, .int .i64 x.low, .int .i64 x.high, .bool x.branded, .string x.brand, .string x.opaq, .int .i64 x.super, .slice A1 x.parts.length a1, .slice A2 x.methods.length a2, .slice A3 x.overs.length a3] 42)).alloc (.cells #[.int .u8 y.kind, .int .i64 y.low, .int .i64 y.high, .bool y.branded, .string y.brand, .string y.opaq, .int .i64 y.super, .slice B1 y.parts.length b1, .slice B2 y.methods.length b2, .slice B3 y.overs.length b3] 42)) w.heap.size x (.slice A1 x.parts.length a1) (.slice A2 x.methods.length a2) (.slice A3 x.overs.length a3) := TyBox.ext (w := w.alloc (.cells #[.int .u8 x.kind, .int .i64 x.low, .int .i64 x.high, .bool x.branded, .string x.brand, .string x.opaq, .int .i64 x.super, .slice A1 x.parts.length a1, .slice A2 x.methods.length a2, .slice A3 x.overs.length a3] 42)) (heap_alloc_self w _) ((Ext.refl _).alloc _)
  have hby : TyBox ((w.alloc (.cells #[.int .u8 x.kind, .int .i64 x.low, .int .i64 x.high, .bool x.branded, .string x.brand, .string x.opaq, .int .i64 x.super, .slice A1 x.parts.length a1, .slice A2 x.methods.length a2, .slice A3 x.overs.length a3] 42)).alloc (.cells #[.int .u8 y.kind, .int .i64 y.low, .int .i64 y.high, .bool y.branded, .string y.brand, .string y.opaq, .int .i64 y.super, .slice B1 y.parts.length b1, .slice B2 y.methods.length b2, .slice B3 y.overs.length b3] 42)) (w.heap.size + 1) y (.slice B1 y.parts.length b1) (.slice B2 y.methods.length b2) (.slice B3 y.overs.length b3) := by
    have h := heap_alloc_self (w.alloc (.cells #[.int .u8 x.kind, .int .i64 x.low, .int .i64 x.high, .bool x.branded, .string x.brand, .string x.opaq, .int .i64 x.super, .slice A1 x.parts.length a1, .slice A2 x.methods.length a2, .slice A3 x.overs.length a3] 42)) (.cells #[.int .u8 y.kind, .int .i64 y.low, .int .i64 y.high, .bool y.branded, .string y.brand, .string y.opaq, .int .i64 y.super, .slice B1 y.parts.length b1, .slice B2 y.methods.length b2, .slice B3 y.overs.length b3] 42)
    rw [World.size_alloc] at h
    exact h
  have Hxw := Lib.hid (hxw.alloc (.cells #[.int .u8 y.kind, .int .i64 y.low, .int .i64 y.high, .bool y.branded, .string y.brand, .string y.opaq, .int .i64 y.super, .slice B1 y.parts.length b1, .slice B2 y.methods.length b2, .slice B3 y.overs.length b3] 42))
  have Hbx := Lib.hid hbx
  have Hby := Lib.hid hby
  clear hxw hbx hby
  go_enter Tryz.func41, Tryz.ntmps41
  go_wp2_with fail
  clear p0 p1 p2 p3 p4 p5 p6 p7 p8 r0 r1 r2 r3 r4 r5
  generalize ((w.alloc (.cells #[.int .u8 x.kind, .int .i64 x.low, .int .i64 x.high, .bool x.branded, .string x.brand, .string x.opaq, .int .i64 x.super, .slice A1 x.parts.length a1, .slice A2 x.methods.length a2, .slice A3 x.overs.length a3] 42)).alloc (.cells #[.int .u8 y.kind, .int .i64 y.low, .int .i64 y.high, .bool y.branded, .string y.brand, .string y.opaq, .int .i64 y.super, .slice B1 y.parts.length b1, .slice B2 y.methods.length b2, .slice B3 y.overs.length b3] 42)) = w2 at *
  generalize w.heap.size + 1 = by_ at *
  generalize w.heap.size = bx_ at *
  go_loopw [5] (fun u wr => ∃ k : Nat, k ≤ x.parts.length ∧ u = .int .i64 k ∧ Hid (Ext w2 wr) ∧ Hid (∀ i (h1 : i < x.parts.length) (h2 : i < y.parts.length), i < k → partEq x.parts[i] y.parts[i] = true)) (fun u _ => x.parts.length - (intOf u).toNat)
  case atStart => exact ⟨0, by omega, rfl, Lib.hid (Ext.refl _), Lib.hid (fun i _ _ h => by omega)⟩
  case round =>
    obtain ⟨k, hk, rfl, Hx, Hno⟩ := hrel
    obtain ⟨_, _, _, _, _, _, _, d7, d8, d9⟩ := (Hbx.out.ext Hx.out).at
    obtain ⟨_, _, _, _, _, _, _, f7, f8, f9⟩ := (Hby.out.ext Hx.out).at
    simp only [Nat.zero_add] at d7 d8 d9 f7 f8 f9
    have lx := cell_lt d7
    have ly := cell_lt f7
    by_cases hlt : k < x.parts.length
    · have hlt2 : k < y.parts.length := by omega
      obtain ⟨b, off, rfl, p0, _⟩ := Xps.out k hlt
      obtain ⟨b', off', rfl, p1, _⟩ := Yps.out k hlt2
      replace p0 := (Hxw.out.trans Hx.out).cell p0
      replace p1 := (Hxw.out.trans Hx.out).cell p1
      have l0 := cell_lt p0
      have l1 := cell_lt p1
      have i0 : (0 : Int) ≤ (k : Int) := by omega
      have i1 : (k : Int) < (x.parts.length : Int) := by omega
      have i2 : (k : Int) < (y.parts.length : Int) := by omega
      have Hno1 := Lib.hid (fun h => agree_no2 (eqF_no (p := partEq) hlt hlt2 h))
      have Hyes1 := Lib.hid (fun (h : partEq x.parts[k] y.parts[k] = true) i (h1 : i < x.parts.length) (h2 : i < y.parts.length) (hik : i < k + 1) => if e : i = k then (by subst e; exact h : partEq x.parts[i] y.parts[i] = true) else Hno.out i h1 h2 (by omega))
      have Hdf := Lib.hid (show partEq x.parts[k] y.parts[k] = (x.parts[k].name.toList == y.parts[k].name.toList) from rfl)
      generalize x.parts[k] = s at *
      generalize y.parts[k] = t at *
      cases he : (s.name.toList == t.name.toList) with
      | true =>
        have Hn := Lib.hid (Hyes1.out (Hdf.out.trans he))
        have he3 : (s.name.toList != t.name.toList) = false := by simpa using he
        have he2 : s.name.toList = t.name.toList := by simpa using he
        go_wp2_with fail
        go_quiet (fail)
        go_wp2_with fail
        go_roundw
        case rel => exact ⟨k + 1, by omega, by go_num, Lib.hid (Hx.out.drewN _), Hn⟩
        case measure => simp [intOf]; omega
      | false =>
        have Hv := Lib.hid (Hno1.out (Hdf.out.trans he))
        have he2 : ¬ s.name.toList = t.name.toList := by simpa using he
        have he3 : (s.name.toList != t.name.toList) = true := by simpa using he
        go_wp2_with fail
        go_quiet (fail)
        go_wp2_with fail
        go_ret
        rw [Hv.out]
        exact ⟨rfl, Hxw.out.trans (Hx.out.drewN _)⟩
    · have hparts := eqF_yes (p := partEq) H6.out (j := k) hlt (fun i h1 h2 h3 => Hno.out i h1 h2 h3)
      have Hparts := Lib.hid hparts
      have i1 : ¬ (k : Int) < (x.parts.length : Int) := by omega
      clear hparts Hno
      go_wp2_with fail
      go_loopw [6] (fun u wr => ∃ k : Nat, k ≤ x.methods.length ∧ u = .int .i64 k ∧ Hid (Ext w2 wr) ∧ Hid (∀ i (h1 : i < x.methods.length) (h2 : i < y.methods.length), i < k → sameMethodB x.methods[i] y.methods[i] = true)) (fun u _ => x.methods.length - (intOf u).toNat)
      case atStart => exact ⟨0, by omega, rfl, Hx, Lib.hid (fun i _ _ h => by omega)⟩
      case round =>
        clear d7 d8 d9 f7 f8 f9 lx ly hk hlt i1 Hx
        obtain ⟨k, hk, rfl, Hx, Hno⟩ := hrel
        obtain ⟨_, _, _, _, _, _, _, d7, d8, d9⟩ := (Hbx.out.ext Hx.out).at
        obtain ⟨_, _, _, _, _, _, _, f7, f8, f9⟩ := (Hby.out.ext Hx.out).at
        simp only [Nat.zero_add] at d7 d8 d9 f7 f8 f9
        have lx := cell_lt d7
        have ly := cell_lt f7
        by_cases hlt : k < x.methods.length
        · have hlt2 : k < y.methods.length := by omega
          obtain ⟨b, off, sa, sr, rfl, hsa, hsr, m0, m1, m2, m3, m4⟩ := Xms.out k hlt
          obtain ⟨b', off', ta, tr, rfl, hta, htr, n0, n1, n2, n3, n4⟩ := Yms.out k hlt2
          have hsm := Xmm.out _ (List.getElem_mem hlt)
          have htm := Ymm.out _ (List.getElem_mem hlt2)
          have i0 : (0 : Int) ≤ (k : Int) := by omega
          have i1 : (k : Int) < (x.methods.length : Int) := by omega
          have i2 : (k : Int) < (y.methods.length : Int) := by omega
          have Hno1 := Lib.hid (fun h => agree_no3 (eqF_no (p := sameMethodB) hlt hlt2 h))
          have Hyes1 := Lib.hid (fun (h : sameMethodB x.methods[k] y.methods[k] = true) i (h1 : i < x.methods.length) (h2 : i < y.methods.length) (hik : i < k + 1) => if e : i = k then (by subst e; exact h : sameMethodB x.methods[i] y.methods[i] = true) else Hno.out i h1 h2 (by omega))
          generalize x.methods[k] = s at *
          generalize y.methods[k] = t at *
          obtain ⟨Sa, sac, es⟩ := hsa.len
          obtain ⟨Sr, src, er⟩ := hsr.len
          obtain ⟨Ta, tac, et⟩ := hta.len
          obtain ⟨Tr, trc, etr⟩ := htr.len
          subst es er et etr
          have Hcall := Lib.hid (fun w' (hx' : Ext w w') => rstrings_any w' _ _ s.raises t.raises (hsr.mono hx') (htr.mono hx') hsm.2.2.2.1 htm.2.2.2.1)
          obtain ⟨_, _, z1, z2, _⟩ := hsm
          obtain ⟨_, _, z3, z4, _⟩ := htm
          clear hsa hsr hta htr
          replace m0 := (Hxw.out.trans Hx.out).cell m0
          replace m1 := (Hxw.out.trans Hx.out).cell m1
          replace m2 := (Hxw.out.trans Hx.out).cell m2
          replace m3 := (Hxw.out.trans Hx.out).cell m3
          replace m4 := (Hxw.out.trans Hx.out).cell m4
          replace n0 := (Hxw.out.trans Hx.out).cell n0
          replace n1 := (Hxw.out.trans Hx.out).cell n1
          replace n2 := (Hxw.out.trans Hx.out).cell n2
          replace n3 := (Hxw.out.trans Hx.out).cell n3
          replace n4 := (Hxw.out.trans Hx.out).cell n4
          have l0 := cell_lt m0
          have l1 := cell_lt n0
          have Hx4 := Lib.hid ((Hx.out.alloc (.cells #[.string s.name, .slice Sa s.args.length sac, .int .i64 s.result, .slice Sr s.raises.length src, .string s.proc] 74)).alloc (.cells #[.string t.name, .slice Ta t.args.length tac, .int .i64 t.result, .slice Tr t.raises.length trc, .string t.proc] 74))
          by_cases g0 : s.name = t.name
          case neg =>
            as_aux_lemma =>
              have s0 : ¬ s.name.toList = t.name.toList := fun e => g0 (ba_toList_inj e)
              have p0 : (s.name.toList != t.name.toList) = true := by simpa using s0
              have r0 : (s.name.toList == t.name.toList) = false := by simpa using s0
              have Hv := Lib.hid (Hno1.out (by cases hb : sameMethodB s t with | false => rfl | true => exact absurd (sameMethodB_iff.1 hb).1 g0))
              clear g0
              go_wp2_with fail
              go_ret
              rw [Hv.out]
              exact ⟨rfl, Hxw.out.trans Hx4.out⟩
          have p0 : (s.name.toList != t.name.toList) = false := by rw [g0]; simp
          have r0 : (s.name.toList == t.name.toList) = true := by rw [g0]; simp
          by_cases g1 : s.proc = t.proc
          case neg =>
            as_aux_lemma =>
              have s1 : ¬ s.proc.toList = t.proc.toList := fun e => g1 (ba_toList_inj e)
              have p1 : (s.proc.toList != t.proc.toList) = true := by simpa using s1
              have r1 : (s.proc.toList == t.proc.toList) = false := by simpa using s1
              have Hv := Lib.hid (Hno1.out (by cases hb : sameMethodB s t with | false => rfl | true => exact absurd (sameMethodB_iff.1 hb).2.1 g1))
              clear g0 g1
              go_wp2_with fail
              go_ret
              rw [Hv.out]
              exact ⟨rfl, Hxw.out.trans Hx4.out⟩
          have p1 : (s.proc.toList != t.proc.toList) = false := by rw [g1]; simp
          have r1 : (s.proc.toList == t.proc.toList) = true := by rw [g1]; simp
          by_cases g2 : s.args.length = t.args.length
          case neg =>
            as_aux_lemma =>
              have p2 : ((s.args.length : Int) != (t.args.length : Int)) = true := by simp; omega
              have Hv := Lib.hid (Hno1.out (by cases hb : sameMethodB s t with | false => rfl | true => exact absurd (sameMethodB_iff.1 hb).2.2.1 g2))
              clear g0 g1 g2
              go_wp2_with fail
              go_ret
              rw [Hv.out]
              exact ⟨rfl, Hxw.out.trans Hx4.out⟩
          have p2 : ((s.args.length : Int) != (t.args.length : Int)) = false := by simp; omega
          have hsame : ∀ (e : decide (s.result < 0) = decide (t.result < 0)), sameMethodB s t = eqF strEq s.raises t.raises := by
            intro e
            unfold sameMethodB
            rw [strEq_iff.2 g0, strEq_iff.2 g1, decide_eq_true g2, e]
            simp
          have Hdiff := Lib.hid (fun (e : decide (s.result < 0) ≠ decide (t.result < 0)) => Hno1.out (by cases hb : sameMethodB s t with | false => rfl | true => exact absurd (sameMethodB_iff.1 hb).2.2.2.1 e))
          have Hsame := Lib.hid hsame
          clear hsame g0 g1 g2
          by_cases g3 : s.result < 0
          case pos =>
            by_cases g4 : t.result < 0
            case pos =>
              as_aux_lemma =>
                have Hs := Lib.hid (Hsame.out (by simp [g3, g4]))
                cases hr : eqF strEq s.raises t.raises with
                | false =>
                  have Hv := Lib.hid (Hno1.out (Hs.out.trans hr))
                  rw [hr] at Hcall
                  clear hr
                  go_wp2_with fail
                  refine (Hcall.out _ (Hxw.out.trans Hx4.out)).mono ?_
                  rintro e w5 ⟨rfl, hx5⟩
                  go_wp2_with fail
                  go_ret
                  rw [Hv.out]
                  exact ⟨rfl, (Hxw.out.trans Hx4.out).trans hx5⟩
                | true =>
                  have Hn := Lib.hid (Hyes1.out (Hs.out.trans hr))
                  rw [hr] at Hcall
                  clear hr
                  go_wp2_with fail
                  refine (Hcall.out _ (Hxw.out.trans Hx4.out)).mono ?_
                  rintro e w5 ⟨rfl, hx5⟩
                  have Hx5 := Lib.hid (Hx4.out.trans hx5)
                  clear hx5
                  go_wp2_with fail
                  go_roundw
                  case rel => exact ⟨k + 1, by omega, by go_num, Hx5, Hn⟩
                  case measure => simp [intOf]; omega
            case neg =>
              as_aux_lemma =>
                have Hv := Lib.hid (Hdiff.out (by simp [g3, g4]))
                go_wp2_with fail
                go_ret
                rw [Hv.out]
                exact ⟨rfl, Hxw.out.trans Hx4.out⟩
          case neg =>
            by_cases g4 : t.result < 0
            case pos =>
              as_aux_lemma =>
                have Hv := Lib.hid (Hdiff.out (by simp [g3, g4]))
                go_wp2_with fail
                go_ret
                rw [Hv.out]
                exact ⟨rfl, Hxw.out.trans Hx4.out⟩
            case neg =>
              as_aux_lemma =>
                have Hs := Lib.hid (Hsame.out (by simp [g3, g4]))
                cases hr : eqF strEq s.raises t.raises with
                | false =>
                  have Hv := Lib.hid (Hno1.out (Hs.out.trans hr))
                  rw [hr] at Hcall
                  clear hr
                  go_wp2_with fail
                  refine (Hcall.out _ (Hxw.out.trans Hx4.out)).mono ?_
                  rintro e w5 ⟨rfl, hx5⟩
                  go_wp2_with fail
                  go_ret
                  rw [Hv.out]
                  exact ⟨rfl, (Hxw.out.trans Hx4.out).trans hx5⟩
                | true =>
                  have Hn := Lib.hid (Hyes1.out (Hs.out.trans hr))
                  rw [hr] at Hcall
                  clear hr
                  go_wp2_with fail
                  refine (Hcall.out _ (Hxw.out.trans Hx4.out)).mono ?_
                  rintro e w5 ⟨rfl, hx5⟩
                  have Hx5 := Lib.hid (Hx4.out.trans hx5)
                  clear hx5
                  go_wp2_with fail
                  go_roundw
                  case rel => exact ⟨k + 1, by omega, by go_num, Hx5, Hn⟩
                  case measure => simp [intOf]; omega
        · have hmeths := eqF_yes (p := sameMethodB) H7.out (j := k) hlt (fun i h1 h2 h3 => Hno.out i h1 h2 h3)
          have Hmeths := Lib.hid hmeths
          have i1 : ¬ (k : Int) < (x.methods.length : Int) := by omega
          clear hmeths Hno
          go_wp2_with fail
          go_loopw [9] (fun u wr => ∃ k : Nat, k ≤ x.overs.length ∧ u = .int .i64 k ∧ Hid (Ext w2 wr) ∧ Hid (∀ i (h1 : i < x.overs.length) (h2 : i < y.overs.length), i < k → overEq x.overs[i] y.overs[i] = true)) (fun u _ => x.overs.length - (intOf u).toNat)
          case atStart => exact ⟨0, by omega, rfl, Hx, Lib.hid (fun i _ _ h => by omega)⟩
          case round =>
            clear d7 d8 d9 f7 f8 f9 lx ly hk hlt i1 Hx
            obtain ⟨k, hk, rfl, Hx, Hno⟩ := hrel
            obtain ⟨_, _, _, _, _, _, _, d7, d8, d9⟩ := (Hbx.out.ext Hx.out).at
            obtain ⟨_, _, _, _, _, _, _, f7, f8, f9⟩ := (Hby.out.ext Hx.out).at
            simp only [Nat.zero_add] at d7 d8 d9 f7 f8 f9
            have lx := cell_lt d7
            have ly := cell_lt f7
            by_cases hlt : k < x.overs.length
            · have hlt2 : k < y.overs.length := by omega
              obtain ⟨b, off, rfl, m0, m1⟩ := Xos.out k hlt
              obtain ⟨b', off', rfl, n0, n1⟩ := Yos.out k hlt2
              replace m0 := (Hxw.out.trans Hx.out).cell m0
              replace m1 := (Hxw.out.trans Hx.out).cell m1
              replace n0 := (Hxw.out.trans Hx.out).cell n0
              replace n1 := (Hxw.out.trans Hx.out).cell n1
              have l0 := cell_lt m0
              have l1 := cell_lt n0
              have i0 : (0 : Int) ≤ (k : Int) := by omega
              have i1 : (k : Int) < (x.overs.length : Int) := by omega
              have i2 : (k : Int) < (y.overs.length : Int) := by omega
              have Hno1 := Lib.hid (fun h => agree_no4 (eqF_no (p := overEq) hlt hlt2 h))
              have Hyes1 := Lib.hid (fun (h : overEq x.overs[k] y.overs[k] = true) i (h1 : i < x.overs.length) (h2 : i < y.overs.length) (hik : i < k + 1) => if e : i = k then (by subst e; exact h : overEq x.overs[i] y.overs[i] = true) else Hno.out i h1 h2 (by omega))
              have Hdf := Lib.hid (show overEq x.overs[k] y.overs[k] = (x.overs[k].name.toList == y.overs[k].name.toList && x.overs[k].proc.toList == y.overs[k].proc.toList) from rfl)
              generalize x.overs[k] = s at *
              generalize y.overs[k] = t at *
              have hneq := neq_over s.name s.proc t.name t.proc
              generalize hb : (s.name.toList == t.name.toList && s.proc.toList == t.proc.toList) = bb at hneq Hdf
              have hgu := guard117 BinOp.neq
              clear hb
              cases bb with
              | true =>
                have Hn := Lib.hid (Hyes1.out Hdf.out)
                go_wp2_with fail
                go_quiet (fail)
                go_wp2_with fail
                go_roundw
                case rel => exact ⟨k + 1, by omega, by go_num, Lib.hid (Hx.out.drewN _), Hn⟩
                case measure => simp [intOf]; omega
              | false =>
                have Hv := Lib.hid (Hno1.out Hdf.out)
                go_wp2_with fail
                go_quiet (fail)
                go_wp2_with fail
                go_ret
                rw [Hv.out]
                exact ⟨rfl, Hxw.out.trans (Hx.out.drewN _)⟩
            · have hov := eqF_yes (p := overEq) H8.out (j := k) hlt (fun i h1 h2 h3 => Hno.out i h1 h2 h3)
              have Hv := Lib.hid (agree_yes Hpl.out Hparts.out Hmeths.out hov)
              have i1 : ¬ (k : Int) < (x.overs.length : Int) := by omega
              clear hov Hno
              go_wp2_with fail
              go_ret
              rw [Hv.out]
              exact ⟨rfl, Hxw.out.trans Hx.out⟩
end Go.Proofs.YtldnjnnhfeobdaaGreatDoor
