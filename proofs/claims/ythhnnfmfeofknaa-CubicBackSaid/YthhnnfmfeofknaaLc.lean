/-
  CubicCurve: for every controller, right or not, and all times: the curve does not fall with time, lies within the windows, and is Wmax at K; no condition.
-/
import Derived.Test.YthhnnfmfeofknaaCn
import Derived.Test.YthhnnfmfeofknaaRows
namespace Go.Proofs.Ythhnnfmfeofknaa.Sy
open Go Go.RowKit
set_option linter.unusedSimpArgs false
set_option linter.unusedVariables false

theorem curve_mono {m w k t u : Int} (hm : 0 ≤ m) (h : t ≤ u) : curveI m w k t ≤ curveI m w k u := by
  unfold curveI
  have hd : clampI (t - k) (-1000000) 1000000 ≤ clampI (u - k) (-1000000) 1000000 := by unfold clampI; omega
  generalize clampI (t - k) (-1000000) 1000000 = d at *
  generalize clampI (u - k) (-1000000) 1000000 = e at *
  have key : ∀ a b : Int, 0 ≤ a → a ≤ b → 0 ≤ a * a * a * (4 * m) / 10000000000 ∧ a * a * a * (4 * m) / 10000000000 ≤ b * b * b * (4 * m) / 10000000000 := by
    intro a b h0 hab
    have h1 := cube_mono h0 hab
    have h2 : 0 ≤ a * a * a := Int.mul_nonneg (Int.mul_nonneg h0 h0) h0
    exact ⟨mulDiv_nonneg h2 (by omega) (by omega), Int.ediv_le_ediv (by omega) (Int.mul_le_mul_of_nonneg_right h1 (by omega))⟩
  simp only
  by_cases h1 : d < 0
  · by_cases h2 : e < 0
    · have e1 : max d (-d) = -d := by omega
      have e2 : max e (-e) = -e := by omega
      rw [e1, e2, if_pos h1, if_pos h2]
      have := key (-e) (-d) (by omega) (by omega)
      generalize -e * -e * -e * (4 * m) / 10000000000 = v at *
      generalize -d * -d * -d * (4 * m) / 10000000000 = v' at *
      unfold clampI
      omega
    · have e1 : max d (-d) = -d := by omega
      have e2 : max e (-e) = e := by omega
      rw [e1, e2, if_pos h1, if_neg h2]
      have g1 := key (-d) (-d) (by omega) (by omega)
      have g2 := key e e (by omega) (by omega)
      generalize e * e * e * (4 * m) / 10000000000 = v at *
      generalize -d * -d * -d * (4 * m) / 10000000000 = v' at *
      unfold clampI
      omega
  · have h2 : ¬ e < 0 := by omega
    have e1 : max d (-d) = d := by omega
    have e2 : max e (-e) = e := by omega
    rw [e1, e2, if_neg h1, if_neg h2]
    have := key d e (by omega) (by omega)
    generalize e * e * e * (4 * m) / 10000000000 = v at *
    generalize d * d * d * (4 * m) / 10000000000 = v' at *
    unfold clampI
    omega
theorem curve_at {m w k : Int} (hw : 0 ≤ w ∧ w ≤ 1073741824) : curveI m w k k = w := by
  unfold curveI
  have e : clampI (k - k) (-1000000) 1000000 = 0 := by unfold clampI; omega
  rw [e]
  simp only [show max (0 : Int) (-0) = 0 by omega, Int.zero_mul, Int.zero_ediv, if_neg (show ¬ (0 : Int) < 0 by omega), Int.add_zero]
  unfold clampI
  omega

/-! tideway/tidewaylaw16.CubicCurve -/
def s7 : Sig := ⟨7, 7, [.agg [I64, I64, I64, I64, I64, I64, I64, I64, I64, I64, I64, (.sl [(.int .i64), (.int .i64)]), I64, I64, I64, I64, I64, I64, I64, I64, I64, I64], .col I64, .col I64], [.col (.base .bool)]⟩
def t7 : Tr (List (Col × E)) :=
 (.item (.bind 26 [(.v 0), (.v 1), (.v 2), (.v 3), (.v 4), (.v 5), (.v 6), (.v 7), (.v 8), (.v 9), (.v 10), (.v 11), (.v 12), (.v 13), (.v 14), (.v 15), (.v 16), (.v 17), (.v 18), (.v 19), (.v 20), (.v 21)] 24 1)
 (.item (.pre (.kb true) 26 [(.v 0), (.v 1), (.v 2), (.v 3), (.v 4), (.v 5), (.v 6), (.v 7), (.v 8), (.v 9), (.v 10), (.v 11), (.v 12), (.v 13), (.v 14), (.v 15), (.v 16), (.v 17), (.v 18), (.v 19), (.v 20), (.v 21)])
 (.ite (.op2 .or (.op2 .or (.op2 .or (.op2 .or (.op1 .not (.op2 .eq (.v 24) (.ki (0)))) (.op2 .lt (.v 22) (.ki (0)))) (.op2 .lt (.v 23) (.ki (0)))) (.op2 .lt (.ki (1099511627776)) (.v 22))) (.op2 .lt (.ki (1099511627776)) (.v 23)))
 (.item (.bind 30 [] 25 1)
 (.item (.pre (.kb true) 30 [])
 (.leaf [((.base .bool), (.v 25))])))
 (.item (.bind 28 [(.v 0), (.v 1), (.v 2), (.v 3), (.v 4), (.v 5), (.v 6), (.v 7), (.v 8), (.v 9), (.v 10), (.v 11), (.v 12), (.v 13), (.v 14), (.v 15), (.v 16), (.v 17), (.v 18), (.v 19), (.v 20), (.v 21), (.v 22)] 26 1)
 (.item (.bind 28 [(.v 0), (.v 1), (.v 2), (.v 3), (.v 4), (.v 5), (.v 6), (.v 7), (.v 8), (.v 9), (.v 10), (.v 11), (.v 12), (.v 13), (.v 14), (.v 15), (.v 16), (.v 17), (.v 18), (.v 19), (.v 20), (.v 21), (.op1 (.wrap .i64) (.op2 .add (.v 22) (.v 23)))] 27 1)
 (.item (.pre (.kb true) 28 [(.v 0), (.v 1), (.v 2), (.v 3), (.v 4), (.v 5), (.v 6), (.v 7), (.v 8), (.v 9), (.v 10), (.v 11), (.v 12), (.v 13), (.v 14), (.v 15), (.v 16), (.v 17), (.v 18), (.v 19), (.v 20), (.v 21), (.v 22)])
 (.item (.pre (.kb true) 28 [(.v 0), (.v 1), (.v 2), (.v 3), (.v 4), (.v 5), (.v 6), (.v 7), (.v 8), (.v 9), (.v 10), (.v 11), (.v 12), (.v 13), (.v 14), (.v 15), (.v 16), (.v 17), (.v 18), (.v 19), (.v 20), (.v 21), (.op1 (.wrap .i64) (.op2 .add (.v 22) (.v 23)))])
 (.item (.bind 28 [(.v 0), (.v 1), (.v 2), (.v 3), (.v 4), (.v 5), (.v 6), (.v 7), (.v 8), (.v 9), (.v 10), (.v 11), (.v 12), (.v 13), (.v 14), (.v 15), (.v 16), (.v 17), (.v 18), (.v 19), (.v 20), (.v 21), (.v 7)] 28 1)
 (.item (.bind 30 [] 29 1)
 (.item (.pre (.op2 .and (.op2 .and (.op2 .le (.v 26) (.v 27)) (.op2 .le (.ki (0)) (.v 26))) (.op2 .le (.v 27) (.ki (1073741824)))) 28 [(.v 0), (.v 1), (.v 2), (.v 3), (.v 4), (.v 5), (.v 6), (.v 7), (.v 8), (.v 9), (.v 10), (.v 11), (.v 12), (.v 13), (.v 14), (.v 15), (.v 16), (.v 17), (.v 18), (.v 19), (.v 20), (.v 21), (.v 7)])
 (.item (.pre (.op2 .and (.op2 .and (.op2 .and (.op2 .le (.v 26) (.v 27)) (.op2 .le (.ki (0)) (.v 26))) (.op2 .le (.v 27) (.ki (1073741824)))) (.op2 .eq (.v 28) (.v 5))) 30 [])
 (.leaf [((.base .bool), (.op2 .and (.op2 .and (.op2 .and (.op2 .and (.op2 .le (.v 26) (.v 27)) (.op2 .le (.ki (0)) (.v 26))) (.op2 .le (.v 27) (.ki (1073741824)))) (.op2 .eq (.v 28) (.v 5))) (.v 29)))]))))))))))))
theorem c7 : compile Go.Proofs.Try.prog [s26, s28, s30] Go.Proofs.Try.f7 s7.params s7.results = some t7 := by kernel_rfl
def L7 : List (Nat × (List LV → List LV)) := [(26, F26), (28, F28), (30, F30)]
def M7 : List (Nat × (List LV → Prop)) := [(28, R28)]
theorem h7 : ∀ sg, sg ∈ [s26, s28, s30] → ConOk Go.Proofs.Try.prog (ap L7) (apR M7) sg := by
  intro sg h
  simp only [List.mem_cons, List.not_mem_nil, or_false] at h
  rcases h with rfl | rfl | rfl
  · exact k26.to rfl rfl
  · exact k28.to rfl rfl
  · exact k30.to rfl rfl
def F7 (_ : List LV) : List LV := [.b true]
def R7 (ls : List LV) : Prop := PFit s7.params ls
set_option maxRecDepth 100000 in
theorem k7 : Kon Go.Proofs.Try.prog s7 F7 R7 := by
  refine con_ok h7 (by kernel_rfl) Go.Proofs.Try.func7 (by kernel_rfl) c7 ?_
  intro ls _ hr
  have hf := fit_flat hr
  have hn : In64 (outOf ls 22).I := fit_in hf rfl
  have hn2 : In64 (outOf ls 23).I := fit_in hf rfl
  simp only [t7, Tr.den, L7, M7, ap, apR, if_true, Nat.reduceEqDiff, if_false, List.map_cons, List.map_nil, E.den, O1.ev, ev_add, ev_sub, ev_mul, ev_quo, ev_rem, ev_mx, ev_mn, ev_shl, ev_shr, ev_bit, ev_lt, ev_le, ev_eq, ev_and, ev_or, ev_eqb, ev_cat, ev_rcons, ev_rd, SameL, Col.same]
  simp only [setE_lt, setE_hit, Nat.reduceLT, Nat.reduceLeDiff, Nat.reduceAdd, Nat.reduceSub]
  simp only [LV.Ii, LV.Bb, LV.Ll]
  simp only [E26, cok22 (outOf ls)]
  simp only [F30, F7, outOf_z, LV.Bb, implies_true, true_implies, true_and, and_true]
  by_cases hc : CubicOk (outOf ls) ∧ (0 ≤ (outOf ls 22).I ∧ (outOf ls 22).I ≤ 1099511627776) ∧ 0 ≤ (outOf ls 23).I ∧ (outOf ls 23).I ≤ 1099511627776
  case neg =>
    rw [if_pos]
    · trivial
    by_cases hok : CubicOk (outOf ls)
    · simp only [if_pos hok, Bool.or_eq_true, Bool.and_eq_true, Bool.not_eq_true', tf_t, tf_f, Bool.or_eq_false_iff, Bool.and_eq_false_iff, not_true_eq_false, not_false_eq_true, false_or, or_false, true_or, or_true, true_and, and_true]
      have := fun h => hc ⟨hok, h⟩
      omega
    · simp only [if_neg hok]
      simp [tf_d]
  obtain ⟨hok, hb⟩ := hc
  rw [if_neg (by simp only [if_pos hok]; first | (simp only [Bool.or_eq_true, Bool.and_eq_true, Bool.not_eq_true', tf_t, tf_f, Bool.or_eq_false_iff, Bool.and_eq_false_iff, not_true_eq_false, not_false_eq_true, false_or, or_false, true_or, or_true, true_and, and_true]; done) | (simp only [Bool.or_eq_true, Bool.and_eq_true, Bool.not_eq_true', tf_t, tf_f, Bool.or_eq_false_iff, Bool.and_eq_false_iff, not_true_eq_false, not_false_eq_true, false_or, or_false, true_or, or_true, true_and, and_true]; omega))]
  have hw : IntKind.i64.wrap ((outOf ls 22).I + (outOf ls 23).I) = (outOf ls 22).I + (outOf ls 23).I := wrap_i64 (by omega) (by omega)
  have e28 := fun t => E28 (outOf ls) t hok
  simp only [hw, e28, LV.Ii]
  have hok' := hok
  unfold CubicOk Common at hok'
  have hk : In64 (outOf ls 7).I := ⟨by omega, by omega⟩
  refine ⟨R28_ok (outOf ls) _ hn, R28_ok (outOf ls) _ ⟨by simp only [LV.Ii]; omega, by simp only [LV.Ii]; omega⟩, fun _ => R28_ok (outOf ls) _ hk, ?_⟩
  simp only [Bool.or_eq_true, Bool.and_eq_true, Bool.not_eq_true', tf_t, tf_f, Bool.or_eq_false_iff, Bool.and_eq_false_iff, and_true]
  have c1 := curve_mono (m := (outOf ls 1).I) (w := (outOf ls 5).I) (k := (outOf ls 7).I) (t := (outOf ls 22).I) (u := (outOf ls 22).I + (outOf ls 23).I) (by omega) (by omega)
  have c2 := curveI_range (outOf ls 1).I (outOf ls 5).I (outOf ls 7).I (outOf ls 22).I
  have c3 := curveI_range (outOf ls 1).I (outOf ls 5).I (outOf ls 7).I ((outOf ls 22).I + (outOf ls 23).I)
  rw [curve_at (by omega)]
  exact ⟨⟨⟨c1, c2.1⟩, c3.2⟩, rfl⟩
end Go.Proofs.Ythhnnfmfeofknaa.Sy
namespace Go.Proofs.Ythhnnfmfeofknaa
open Go.ChangeShapes Go.WideShapes Go.ChangeAt Go.RowKit
theorem cubicCurve_own : ownKnob Try.prog.godebug = none := by kernel_rfl
theorem cubicCurve_laidOut : laidOutB Try.prog = true := by kernel_rfl
set_option maxRecDepth 100000 in
theorem cubicCurve_lifted (os : Os) (started : os.Started) (H : Type) (enc : TypeId × Value → H) :
    ReturnsInHanded {} Try.checked os 7 .any (Rows.cubicCurveSpec.pre6 enc Try.prog Try.f7 Rows.cubicCurveRow.domain false) (Rows.cubicCurveSpec.post enc Try.prog Try.f7 false true false false) := by
  refine returnsInHanded_of_change (C := Try.checked) cubicCurve_own started (by kernel_rfl) Try.func7
    (ChangeSpec.witness6 (enc := enc) (C := Try.checked) false ⟨#[], #[.agg #[.int .i64 0, .int .i64 0, .int .i64 0, .int .i64 0, .int .i64 0, .int .i64 0, .int .i64 0, .int .i64 0, .int .i64 0, .int .i64 0, .int .i64 0, .slice none 0 0, .int .i64 0, .int .i64 0, .int .i64 0, .int .i64 0, .int .i64 0, .int .i64 0, .int .i64 0, .int .i64 0, .int .i64 0, .int .i64 0], .int .i64 0, .int .i64 0], []⟩ 8 (by kernel_rfl) (by kernel_rfl) (by kernel_rfl) (by kernel_rfl)) ?_
  intro W base args ds gs before hval0 hW hcnd _
  refine Sy.law_calls (b := 4) (s := Rows.cubicCurveSpec) (Sy.k7.to (Φ := fun _ => Sy.F7) (Pr := fun _ => Sy.R7) rfl rfl) cubicCurve_laidOut (by kernel_rfl) (by kernel_rfl) (by kernel_rfl) rfl ?_ (fun ls hf => ⟨hf, rfl⟩) hval0 hW
  intro ds hd
  have hd : ds.length = 3 := hd
  rcases ds with _ | ⟨d0, ds⟩
  · simp at hd
  rcases ds with _ | ⟨d1, ds⟩
  · simp at hd
  rcases ds with _ | ⟨d2, ds⟩
  · simp at hd
  rcases ds with _ | ⟨d, ds⟩
  · rfl
  · simp at hd
theorem cubicCurve_holds : Rows.CubicCurveSaid :=
  OpenClaim.holds_of_wide 7 Try.f7 rfl rfl rfl rfl rfl rfl rfl ⟨rfl, rfl, rfl, rfl, rfl⟩ rfl rfl rfl rfl rfl (by kernel_rfl) Try.func7 (by kernel_rfl)
    (of_decide_eq_true (by kernel_rfl)) (by unfold Func.isWrapper; first | (rw [if_pos (by decide +kernel)]; kernel_rfl) | (rw [if_neg (by decide +kernel)]; exact ⟨rfl, rfl⟩))
    (fun os started H enc _ => cubicCurve_lifted os started H enc)
#print axioms cubicCurve_holds
end Go.Proofs.Ythhnnfmfeofknaa

