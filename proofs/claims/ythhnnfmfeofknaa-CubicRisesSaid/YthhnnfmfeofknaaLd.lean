/-
  CubicRises: for every controller, right or not, and all numbers: no acknowledgement lowers the window, and at once it grows to half as much again and a segment at the most; no condition.
-/
import Derived.Test.YthhnnfmfeofknaaCo
import Derived.Test.YthhnnfmfeofknaaRows
namespace Go.Proofs.Ythhnnfmfeofknaa.Sy
open Go Go.RowKit
set_option linter.unusedSimpArgs false
set_option linter.unusedVariables false

/-! tideway/tidewaylaw16.CubicRises -/
def s6 : Sig := ⟨6, 6, [.agg [I64, I64, I64, I64, I64, I64, I64, I64, I64, I64, I64, (.sl [(.int .i64), (.int .i64)]), I64, I64, I64, I64, I64, I64, I64, I64, I64, I64], .col I64, .col I64, .col I64], [.col (.base .bool)]⟩
def t6 : Tr (List (Col × E)) :=
 (.item (.bind 23 [(.v 0), (.v 1), (.v 2), (.v 3), (.v 4), (.v 5), (.v 6), (.v 7), (.v 8), (.v 9), (.v 10), (.v 11), (.v 12), (.v 13), (.v 14), (.v 15), (.v 16), (.v 17), (.v 18), (.v 19), (.v 20), (.v 21), (.v 22), (.v 23), (.v 24), (.kb false)] 25 23)
 (.item (.pre (.kb true) 23 [(.v 0), (.v 1), (.v 2), (.v 3), (.v 4), (.v 5), (.v 6), (.v 7), (.v 8), (.v 9), (.v 10), (.v 11), (.v 12), (.v 13), (.v 14), (.v 15), (.v 16), (.v 17), (.v 18), (.v 19), (.v 20), (.v 21), (.v 22), (.v 23), (.v 24), (.kb false)])
 (.ite (.op1 .not (.op2 .eq (.v 47) (.ki (0))))
 (.item (.bind 30 [] 48 1)
 (.item (.pre (.kb true) 30 [])
 (.leaf [((.base .bool), (.v 48))])))
 (.item (.bind 26 [(.v 25), (.v 26), (.v 27), (.v 28), (.v 29), (.v 30), (.v 31), (.v 32), (.v 33), (.v 34), (.v 35), (.v 36), (.v 37), (.v 38), (.v 39), (.v 40), (.v 41), (.v 42), (.v 43), (.v 44), (.v 45), (.v 46)] 49 1)
 (.item (.pre (.op1 .not (.op2 .lt (.v 27) (.v 2))) 26 [(.v 25), (.v 26), (.v 27), (.v 28), (.v 29), (.v 30), (.v 31), (.v 32), (.v 33), (.v 34), (.v 35), (.v 36), (.v 37), (.v 38), (.v 39), (.v 40), (.v 41), (.v 42), (.v 43), (.v 44), (.v 45), (.v 46)])
 (.ite (.op2 .or (.op2 .lt (.v 27) (.v 2)) (.op1 .not (.op2 .eq (.v 49) (.ki (0)))))
  (.leaf [((.base .bool), (.kb false))])
  (.ite (.op2 .and (.op2 .and (.op2 .and (.op2 .le (.v 22) (.v 2)) (.op2 .le (.v 3) (.v 2))) (.op2 .eq (.v 6) (.ki (-1)))) (.op2 .lt (.op1 (.wrap .i64) (.op2 .add (.op1 (.wrap .i64) (.op2 .add (.v 2) (.op1 (.wrap .i64) (.op2 .quo (.v 2) (.ki (2)))))) (.v 1))) (.v 27)))
   (.leaf [((.base .bool), (.kb false))])
   (.item (.bind 30 [] 50 1)
   (.item (.pre (.kb true) 30 [])
   (.leaf [((.base .bool), (.v 50))]))))))))))
theorem c6 : compile Go.Proofs.Try.prog [s23, s26, s30] Go.Proofs.Try.f6 s6.params s6.results = some t6 := by kernel_rfl
def L6 : List (Nat × (List LV → List LV)) := [(23, F23), (26, F26), (30, F30)]
def M6 : List (Nat × (List LV → Prop)) := []
theorem h6 : ∀ sg, sg ∈ [s23, s26, s30] → ConOk Go.Proofs.Try.prog (ap L6) (apR M6) sg := by
  intro sg h
  simp only [List.mem_cons, List.not_mem_nil, or_false] at h
  rcases h with rfl | rfl | rfl
  · exact k23.to rfl rfl
  · exact k26.to rfl rfl
  · exact k30.to rfl rfl
def F6 (_ : List LV) : List LV := [.b true]
def R6 (ls : List LV) : Prop := PFit s6.params ls
set_option maxRecDepth 100000 in
theorem k6 : Kon Go.Proofs.Try.prog s6 F6 R6 := by
  refine con_ok h6 (by kernel_rfl) Go.Proofs.Try.func6 (by kernel_rfl) c6 ?_
  intro ls _ hr
  have hf := fit_flat hr
  simp only [t6, Tr.den, L6, M6, ap, apR, if_true, Nat.reduceEqDiff, if_false, List.map_cons, List.map_nil, E.den, O1.ev, ev_add, ev_sub, ev_mul, ev_quo, ev_rem, ev_mx, ev_mn, ev_shl, ev_shr, ev_bit, ev_lt, ev_le, ev_eq, ev_and, ev_or, ev_eqb, ev_cat, ev_rcons, ev_rd, SameL, Col.same]
  simp only [setE_lt, setE_hit, Nat.reduceLT, Nat.reduceLeDiff, Nat.reduceAdd, Nat.reduceSub]
  simp only [LV.Ii, LV.Bb, LV.Ll]
  simp only [F30, F6, outOf_z, LV.Bb, implies_true, true_implies, true_and, and_true]
  by_cases hok : CubicOk (outOf ls)
  case neg =>
    rw [E23bad (outOf ls) _ _ _ _ hok]
    rw [if_pos (by simp only [out22zb, setE_lt, setE_hit, Nat.reduceLT, Nat.reduceLeDiff, Nat.reduceAdd, Nat.reduceSub, outOf_z, outOf_s, LV.Ii]; first | (simp only [Bool.or_eq_true, Bool.and_eq_true, Bool.not_eq_true', tf_t, tf_f, Bool.or_eq_false_iff, Bool.and_eq_false_iff, not_true_eq_false, not_false_eq_true, false_or, or_false, true_or, or_true, true_and, and_true]; done) | (simp only [Bool.or_eq_true, Bool.and_eq_true, Bool.not_eq_true', tf_t, tf_f, Bool.or_eq_false_iff, Bool.and_eq_false_iff, not_true_eq_false, not_false_eq_true, false_or, or_false, true_or, or_true, true_and, and_true]; omega))]
    trivial
  by_cases hb : SizeI (outOf ls 22).I ∧ TimeI (outOf ls 23).I ∧ TimeI (outOf ls 24).I
  case neg =>
    rw [E23arg (outOf ls) _ _ _ _ hok hb]
    rw [if_pos (by simp only [out22zb, setE_lt, setE_hit, Nat.reduceLT, Nat.reduceLeDiff, Nat.reduceAdd, Nat.reduceSub, outOf_z, outOf_s, LV.Ii]; first | (simp only [Bool.or_eq_true, Bool.and_eq_true, Bool.not_eq_true', tf_t, tf_f, Bool.or_eq_false_iff, Bool.and_eq_false_iff, not_true_eq_false, not_false_eq_true, false_or, or_false, true_or, or_true, true_and, and_true]; done) | (simp only [Bool.or_eq_true, Bool.and_eq_true, Bool.not_eq_true', tf_t, tf_f, Bool.or_eq_false_iff, Bool.and_eq_false_iff, not_true_eq_false, not_false_eq_true, false_or, or_false, true_or, or_true, true_and, and_true]; omega))]
    trivial
  obtain ⟨hn, hnow, hs⟩ := hb
  have hok' := hok
  unfold CubicOk Common NoBbr at hok'
  have hw : IntKind.i64.wrap (IntKind.i64.wrap ((outOf ls 2).I + IntKind.i64.wrap ((outOf ls 2).I.tdiv 2)) + (outOf ls 1).I) = (outOf ls 2).I + (outOf ls 2).I / 2 + (outOf ls 1).I := by
    rw [Int.tdiv_eq_ediv_of_nonneg (by omega), wrap_i64 (n := (outOf ls 2).I / 2) (by omega) (by omega), wrap_i64 (n := (outOf ls 2).I + (outOf ls 2).I / 2) (by omega) (by omega), wrap_i64 (by omega) (by omega)]
  by_cases hc : (outOf ls 2).I < (outOf ls 3).I
  · rw [E23slow (outOf ls) _ _ _ hok hn hnow hs hc]
    have hg : CubicOk (fset (outOf ls) 2 (.i (min 1073741824 ((outOf ls 2).I + min (outOf ls 22).I (outOf ls 1).I)))) := by
      unfold CubicOk Common NoBbr
      simp only [fset, Nat.reduceEqDiff, if_true, if_false, LV.Ii]
      omega
    have h2 : (fset (outOf ls) 2 (.i (min 1073741824 ((outOf ls 2).I + min (outOf ls 22).I (outOf ls 1).I))) 2).I = min 1073741824 ((outOf ls 2).I + min (outOf ls 22).I (outOf ls 1).I) := rfl
    generalize fset (outOf ls) 2 (.i (min 1073741824 ((outOf ls 2).I + min (outOf ls 22).I (outOf ls 1).I))) = g at *
    simp only [out22, out22b, setE_lt, setE_hit, Nat.reduceLT, Nat.reduceLeDiff, Nat.reduceAdd, Nat.reduceSub, outOf_z, outOf_s, LV.Ii, E26, cok22 g, if_pos hg, hw, h2]
    rw [if_neg (by first | (simp only [Bool.or_eq_true, Bool.and_eq_true, Bool.not_eq_true', tf_t, tf_f, Bool.or_eq_false_iff, Bool.and_eq_false_iff, not_true_eq_false, not_false_eq_true, false_or, or_false, true_or, or_true, true_and, and_true]; done) | (simp only [Bool.or_eq_true, Bool.and_eq_true, Bool.not_eq_true', tf_t, tf_f, Bool.or_eq_false_iff, Bool.and_eq_false_iff, not_true_eq_false, not_false_eq_true, false_or, or_false, true_or, or_true, true_and, and_true]; omega)), if_neg (by first | (simp only [Bool.or_eq_true, Bool.and_eq_true, Bool.not_eq_true', tf_t, tf_f, Bool.or_eq_false_iff, Bool.and_eq_false_iff, not_true_eq_false, not_false_eq_true, false_or, or_false, true_or, or_true, true_and, and_true]; done) | (simp only [Bool.or_eq_true, Bool.and_eq_true, Bool.not_eq_true', tf_t, tf_f, Bool.or_eq_false_iff, Bool.and_eq_false_iff, not_true_eq_false, not_false_eq_true, false_or, or_false, true_or, or_true, true_and, and_true]; omega)), if_neg (by first | (simp only [Bool.or_eq_true, Bool.and_eq_true, Bool.not_eq_true', tf_t, tf_f, Bool.or_eq_false_iff, Bool.and_eq_false_iff, not_true_eq_false, not_false_eq_true, false_or, or_false, true_or, or_true, true_and, and_true]; done) | (simp only [Bool.or_eq_true, Bool.and_eq_true, Bool.not_eq_true', tf_t, tf_f, Bool.or_eq_false_iff, Bool.and_eq_false_iff, not_true_eq_false, not_false_eq_true, false_or, or_false, true_or, or_true, true_and, and_true]; omega))]
    trivial
  · rw [E23grow (outOf ls) _ _ _ hok hn hnow hs hc]
    have hb := begun'_ok hok hnow
    obtain ⟨k1, k2, k3⟩ := grown_keeps (now := (outOf ls 23).I) (srtt := (outOf ls 24).I) hb hn
    have b2 : (begun' (outOf ls) (outOf ls 23) 2).I = (outOf ls 2).I := by unfold begun'; split <;> rfl
    have b1 : (begun' (outOf ls) (outOf ls 23) 1).I = (outOf ls 1).I := by unfold begun'; split <;> rfl
    have b8 : (outOf ls 6).I = -1 → (begun' (outOf ls) (outOf ls 23) 8).I = (outOf ls 2).I := by
      intro h6
      unfold begun'
      rw [if_pos (by omega)]
      rfl
    rw [b2] at k1 k3
    rw [b1] at k3
    generalize grown (begun' (outOf ls) (outOf ls 23)) (outOf ls 22).I (outOf ls 23).I (outOf ls 24).I = g at *
    simp only [out22, out22b, setE_lt, setE_hit, Nat.reduceLT, Nat.reduceLeDiff, Nat.reduceAdd, Nat.reduceSub, outOf_z, outOf_s, LV.Ii, E26, cok22 g, if_pos k2, hw]
    rw [if_neg (by first | (simp only [Bool.or_eq_true, Bool.and_eq_true, Bool.not_eq_true', tf_t, tf_f, Bool.or_eq_false_iff, Bool.and_eq_false_iff, not_true_eq_false, not_false_eq_true, false_or, or_false, true_or, or_true, true_and, and_true]; done) | (simp only [Bool.or_eq_true, Bool.and_eq_true, Bool.not_eq_true', tf_t, tf_f, Bool.or_eq_false_iff, Bool.and_eq_false_iff, not_true_eq_false, not_false_eq_true, false_or, or_false, true_or, or_true, true_and, and_true]; omega)), if_neg (by first | (simp only [Bool.or_eq_true, Bool.and_eq_true, Bool.not_eq_true', tf_t, tf_f, Bool.or_eq_false_iff, Bool.and_eq_false_iff, not_true_eq_false, not_false_eq_true, false_or, or_false, true_or, or_true, true_and, and_true]; done) | (simp only [Bool.or_eq_true, Bool.and_eq_true, Bool.not_eq_true', tf_t, tf_f, Bool.or_eq_false_iff, Bool.and_eq_false_iff, not_true_eq_false, not_false_eq_true, false_or, or_false, true_or, or_true, true_and, and_true]; omega)), if_neg (by
      simp only [Bool.or_eq_true, Bool.and_eq_true, Bool.not_eq_true', tf_t, tf_f, Bool.or_eq_false_iff, Bool.and_eq_false_iff, not_true_eq_false, not_false_eq_true, false_or, or_false, true_or, or_true, true_and, and_true]
      rintro ⟨⟨⟨q1, q2⟩, q3⟩, q4⟩
      have := k3 q1 (b8 q3)
      omega)]
    trivial
end Go.Proofs.Ythhnnfmfeofknaa.Sy
namespace Go.Proofs.Ythhnnfmfeofknaa
open Go.ChangeShapes Go.WideShapes Go.ChangeAt Go.RowKit
theorem cubicRises_own : ownKnob Try.prog.godebug = none := by kernel_rfl
theorem cubicRises_laidOut : laidOutB Try.prog = true := by kernel_rfl
set_option maxRecDepth 100000 in
theorem cubicRises_lifted (os : Os) (started : os.Started) (H : Type) (enc : TypeId × Value → H) :
    ReturnsInHanded {} Try.checked os 6 .any (Rows.cubicRisesSpec.pre6 enc Try.prog Try.f6 Rows.cubicRisesRow.domain false) (Rows.cubicRisesSpec.post enc Try.prog Try.f6 false true false false) := by
  refine returnsInHanded_of_change (C := Try.checked) cubicRises_own started (by kernel_rfl) Try.func6
    (ChangeSpec.witness6 (enc := enc) (C := Try.checked) false ⟨#[], #[.agg #[.int .i64 0, .int .i64 0, .int .i64 0, .int .i64 0, .int .i64 0, .int .i64 0, .int .i64 0, .int .i64 0, .int .i64 0, .int .i64 0, .int .i64 0, .slice none 0 0, .int .i64 0, .int .i64 0, .int .i64 0, .int .i64 0, .int .i64 0, .int .i64 0, .int .i64 0, .int .i64 0, .int .i64 0, .int .i64 0], .int .i64 0, .int .i64 0, .int .i64 0], []⟩ 8 (by kernel_rfl) (by kernel_rfl) (by kernel_rfl) (by kernel_rfl)) ?_
  intro W base args ds gs before hval0 hW hcnd _
  refine Sy.law_calls (b := 4) (s := Rows.cubicRisesSpec) (Sy.k6.to (Φ := fun _ => Sy.F6) (Pr := fun _ => Sy.R6) rfl rfl) cubicRises_laidOut (by kernel_rfl) (by kernel_rfl) (by kernel_rfl) rfl ?_ (fun ls hf => ⟨hf, rfl⟩) hval0 hW
  intro ds hd
  have hd : ds.length = 4 := hd
  rcases ds with _ | ⟨d0, ds⟩
  · simp at hd
  rcases ds with _ | ⟨d1, ds⟩
  · simp at hd
  rcases ds with _ | ⟨d2, ds⟩
  · simp at hd
  rcases ds with _ | ⟨d3, ds⟩
  · simp at hd
  rcases ds with _ | ⟨d, ds⟩
  · rfl
  · simp at hd
theorem cubicRises_holds : Rows.CubicRisesSaid :=
  OpenClaim.holds_of_wide 6 Try.f6 rfl rfl rfl rfl rfl rfl rfl ⟨rfl, rfl, rfl, rfl, rfl⟩ rfl rfl rfl rfl rfl (by kernel_rfl) Try.func6 (by kernel_rfl)
    (of_decide_eq_true (by kernel_rfl)) (by unfold Func.isWrapper; first | (rw [if_pos (by decide +kernel)]; kernel_rfl) | (rw [if_neg (by decide +kernel)]; exact ⟨rfl, rfl⟩))
    (fun os started H enc _ => cubicRises_lifted os started H enc)
#print axioms cubicRises_holds
end Go.Proofs.Ythhnnfmfeofknaa

