/-
  CubicGrows: for every controller, right or not, and all numbers: what an acknowledgement makes of it, whether it may be, and the curve, are what the reference says; no condition.
-/
import Derived.Test.YthhnnfmfeofknaaCn
import Derived.Test.YthhnnfmfeofknaaRows
namespace Go.Proofs.Ythhnnfmfeofknaa.Sy
open Go Go.RowKit
set_option linter.unusedSimpArgs false
set_option linter.unusedVariables false

theorem in_wrap (n : Int) : In64 (IntKind.i64.wrap n) := by rw [IntKind.wrap_i64]; omega
/-! tideway/tidewaylaw16.CubicGrows -/
def s5 : Sig := ⟨5, 5, [.agg [I64, I64, I64, I64, I64, I64, I64, I64, I64, I64, I64, (.sl [(.int .i64), (.int .i64)]), I64, I64, I64, I64, I64, I64, I64, I64, I64, I64], .col I64, .col I64, .col I64, .col (.base .bool)], [.col (.base .bool)]⟩
def t5 : Tr (List (Col × E)) :=
 (.item (.bind 23 [(.v 0), (.v 1), (.v 2), (.v 3), (.v 4), (.v 5), (.v 6), (.v 7), (.v 8), (.v 9), (.v 10), (.v 11), (.v 12), (.v 13), (.v 14), (.v 15), (.v 16), (.v 17), (.v 18), (.v 19), (.v 20), (.v 21), (.v 22), (.v 23), (.v 24), (.v 25)] 26 23)
 (.item (.pre (.kb true) 23 [(.v 0), (.v 1), (.v 2), (.v 3), (.v 4), (.v 5), (.v 6), (.v 7), (.v 8), (.v 9), (.v 10), (.v 11), (.v 12), (.v 13), (.v 14), (.v 15), (.v 16), (.v 17), (.v 18), (.v 19), (.v 20), (.v 21), (.v 22), (.v 23), (.v 24), (.v 25)])
 (.item (.bind 24 [(.v 0), (.v 1), (.v 2), (.v 3), (.v 4), (.v 5), (.v 6), (.v 7), (.v 8), (.v 9), (.v 10), (.v 11), (.v 12), (.v 13), (.v 14), (.v 15), (.v 16), (.v 17), (.v 18), (.v 19), (.v 20), (.v 21), (.v 22), (.v 23), (.v 24), (.v 25)] 49 23)
 (.item (.pre (.kb true) 24 [(.v 0), (.v 1), (.v 2), (.v 3), (.v 4), (.v 5), (.v 6), (.v 7), (.v 8), (.v 9), (.v 10), (.v 11), (.v 12), (.v 13), (.v 14), (.v 15), (.v 16), (.v 17), (.v 18), (.v 19), (.v 20), (.v 21), (.v 22), (.v 23), (.v 24), (.v 25)])
 (.item (.bind 25 [(.v 26), (.v 27), (.v 28), (.v 29), (.v 30), (.v 31), (.v 32), (.v 33), (.v 34), (.v 35), (.v 36), (.v 37), (.v 38), (.v 39), (.v 40), (.v 41), (.v 42), (.v 43), (.v 44), (.v 45), (.v 46), (.v 47), (.v 49), (.v 50), (.v 51), (.v 52), (.v 53), (.v 54), (.v 55), (.v 56), (.v 57), (.v 58), (.v 59), (.v 60), (.v 61), (.v 62), (.v 63), (.v 64), (.v 65), (.v 66), (.v 67), (.v 68), (.v 69), (.v 70)] 72 1)
 (.item (.bind 26 [(.v 0), (.v 1), (.v 2), (.v 3), (.v 4), (.v 5), (.v 6), (.v 7), (.v 8), (.v 9), (.v 10), (.v 11), (.v 12), (.v 13), (.v 14), (.v 15), (.v 16), (.v 17), (.v 18), (.v 19), (.v 20), (.v 21)] 73 1)
 (.item (.bind 27 [(.v 0), (.v 1), (.v 2), (.v 3), (.v 4), (.v 5), (.v 6), (.v 7), (.v 8), (.v 9), (.v 10), (.v 11), (.v 12), (.v 13), (.v 14), (.v 15), (.v 16), (.v 17), (.v 18), (.v 19), (.v 20), (.v 21)] 74 1)
 (.item (.bind 28 [(.v 0), (.v 1), (.v 2), (.v 3), (.v 4), (.v 5), (.v 6), (.v 7), (.v 8), (.v 9), (.v 10), (.v 11), (.v 12), (.v 13), (.v 14), (.v 15), (.v 16), (.v 17), (.v 18), (.v 19), (.v 20), (.v 21), (.v 23)] 75 1)
 (.item (.bind 29 [(.v 0), (.v 1), (.v 2), (.v 3), (.v 4), (.v 5), (.v 6), (.v 7), (.v 8), (.v 9), (.v 10), (.v 11), (.v 12), (.v 13), (.v 14), (.v 15), (.v 16), (.v 17), (.v 18), (.v 19), (.v 20), (.v 21), (.v 23)] 76 1)
 (.item (.bind 28 [(.v 0), (.v 1), (.v 2), (.v 3), (.v 4), (.v 5), (.v 6), (.v 7), (.v 8), (.v 9), (.v 10), (.v 11), (.v 12), (.v 13), (.v 14), (.v 15), (.v 16), (.v 17), (.v 18), (.v 19), (.v 20), (.v 21), (.op1 (.wrap .i64) (.op2 .sub (.ki (0)) (.v 24)))] 77 1)
 (.item (.bind 29 [(.v 0), (.v 1), (.v 2), (.v 3), (.v 4), (.v 5), (.v 6), (.v 7), (.v 8), (.v 9), (.v 10), (.v 11), (.v 12), (.v 13), (.v 14), (.v 15), (.v 16), (.v 17), (.v 18), (.v 19), (.v 20), (.v 21), (.op1 (.wrap .i64) (.op2 .sub (.ki (0)) (.v 24)))] 78 1)
 (.item (.bind 30 [] 79 1)
 (.item (.pre (.kb true) 25 [(.v 26), (.v 27), (.v 28), (.v 29), (.v 30), (.v 31), (.v 32), (.v 33), (.v 34), (.v 35), (.v 36), (.v 37), (.v 38), (.v 39), (.v 40), (.v 41), (.v 42), (.v 43), (.v 44), (.v 45), (.v 46), (.v 47), (.v 49), (.v 50), (.v 51), (.v 52), (.v 53), (.v 54), (.v 55), (.v 56), (.v 57), (.v 58), (.v 59), (.v 60), (.v 61), (.v 62), (.v 63), (.v 64), (.v 65), (.v 66), (.v 67), (.v 68), (.v 69), (.v 70)])
 (.item (.pre (.op2 .and (.v 72) (.op2 .eq (.v 48) (.v 71))) 26 [(.v 0), (.v 1), (.v 2), (.v 3), (.v 4), (.v 5), (.v 6), (.v 7), (.v 8), (.v 9), (.v 10), (.v 11), (.v 12), (.v 13), (.v 14), (.v 15), (.v 16), (.v 17), (.v 18), (.v 19), (.v 20), (.v 21)])
 (.item (.pre (.op2 .and (.v 72) (.op2 .eq (.v 48) (.v 71))) 27 [(.v 0), (.v 1), (.v 2), (.v 3), (.v 4), (.v 5), (.v 6), (.v 7), (.v 8), (.v 9), (.v 10), (.v 11), (.v 12), (.v 13), (.v 14), (.v 15), (.v 16), (.v 17), (.v 18), (.v 19), (.v 20), (.v 21)])
 (.item (.pre (.op2 .and (.op2 .and (.v 72) (.op2 .eq (.v 48) (.v 71))) (.op2 .eq (.v 73) (.v 74))) 28 [(.v 0), (.v 1), (.v 2), (.v 3), (.v 4), (.v 5), (.v 6), (.v 7), (.v 8), (.v 9), (.v 10), (.v 11), (.v 12), (.v 13), (.v 14), (.v 15), (.v 16), (.v 17), (.v 18), (.v 19), (.v 20), (.v 21), (.v 23)])
 (.item (.pre (.op2 .and (.op2 .and (.v 72) (.op2 .eq (.v 48) (.v 71))) (.op2 .eq (.v 73) (.v 74))) 29 [(.v 0), (.v 1), (.v 2), (.v 3), (.v 4), (.v 5), (.v 6), (.v 7), (.v 8), (.v 9), (.v 10), (.v 11), (.v 12), (.v 13), (.v 14), (.v 15), (.v 16), (.v 17), (.v 18), (.v 19), (.v 20), (.v 21), (.v 23)])
 (.item (.pre (.op2 .and (.op2 .and (.op2 .and (.v 72) (.op2 .eq (.v 48) (.v 71))) (.op2 .eq (.v 73) (.v 74))) (.op2 .eq (.v 75) (.v 76))) 28 [(.v 0), (.v 1), (.v 2), (.v 3), (.v 4), (.v 5), (.v 6), (.v 7), (.v 8), (.v 9), (.v 10), (.v 11), (.v 12), (.v 13), (.v 14), (.v 15), (.v 16), (.v 17), (.v 18), (.v 19), (.v 20), (.v 21), (.op1 (.wrap .i64) (.op2 .sub (.ki (0)) (.v 24)))])
 (.item (.pre (.op2 .and (.op2 .and (.op2 .and (.v 72) (.op2 .eq (.v 48) (.v 71))) (.op2 .eq (.v 73) (.v 74))) (.op2 .eq (.v 75) (.v 76))) 29 [(.v 0), (.v 1), (.v 2), (.v 3), (.v 4), (.v 5), (.v 6), (.v 7), (.v 8), (.v 9), (.v 10), (.v 11), (.v 12), (.v 13), (.v 14), (.v 15), (.v 16), (.v 17), (.v 18), (.v 19), (.v 20), (.v 21), (.op1 (.wrap .i64) (.op2 .sub (.ki (0)) (.v 24)))])
 (.item (.pre (.op2 .and (.op2 .and (.op2 .and (.op2 .and (.v 72) (.op2 .eq (.v 48) (.v 71))) (.op2 .eq (.v 73) (.v 74))) (.op2 .eq (.v 75) (.v 76))) (.op2 .eq (.v 77) (.v 78))) 30 [])
 (.leaf [((.base .bool), (.op2 .and (.op2 .and (.op2 .and (.op2 .and (.op2 .and (.v 72) (.op2 .eq (.v 48) (.v 71))) (.op2 .eq (.v 73) (.v 74))) (.op2 .eq (.v 75) (.v 76))) (.op2 .eq (.v 77) (.v 78))) (.v 79)))])))))))))))))))))))))
theorem c5 : compile Go.Proofs.Try.prog [s23, s24, s25, s26, s27, s28, s29, s30] Go.Proofs.Try.f5 s5.params s5.results = some t5 := by kernel_rfl
def L5 : List (Nat × (List LV → List LV)) := [(23, F23), (24, F24), (25, F25), (26, F26), (27, F27), (28, F28), (29, F29), (30, F30)]
def M5 : List (Nat × (List LV → Prop)) := [(25, R25), (28, R28), (29, R29)]
theorem h5 : ∀ sg, sg ∈ [s23, s24, s25, s26, s27, s28, s29, s30] → ConOk Go.Proofs.Try.prog (ap L5) (apR M5) sg := by
  intro sg h
  simp only [List.mem_cons, List.not_mem_nil, or_false] at h
  rcases h with rfl | rfl | rfl | rfl | rfl | rfl | rfl | rfl
  · exact k23.to rfl rfl
  · exact k24.to rfl rfl
  · exact k25.to rfl rfl
  · exact k26.to rfl rfl
  · exact k27.to rfl rfl
  · exact k28.to rfl rfl
  · exact k29.to rfl rfl
  · exact k30.to rfl rfl
def F5 (_ : List LV) : List LV := [.b true]
def R5 (ls : List LV) : Prop := PFit s5.params ls
set_option maxRecDepth 100000 in
theorem k5 : Kon Go.Proofs.Try.prog s5 F5 R5 := by
  refine con_ok h5 (by kernel_rfl) Go.Proofs.Try.func5 (by kernel_rfl) c5 ?_
  intro ls _ hr
  have hf := fit_flat hr
  have hs : Short ls := fit_sl hf (i := 11) rfl
  have hn : In64 (outOf ls 23).I := fit_in hf rfl
  simp only [t5, Tr.den, L5, M5, ap, apR, if_true, Nat.reduceEqDiff, if_false, List.map_cons, List.map_nil, E.den, O1.ev, ev_add, ev_sub, ev_mul, ev_quo, ev_rem, ev_mx, ev_mn, ev_shl, ev_shr, ev_bit, ev_lt, ev_le, ev_eq, ev_and, ev_or, ev_eqb, ev_cat, ev_rcons, ev_rd, SameL, Col.same, F24, F27, F29, R29]
  simp only [setE_lt, setE_hit, Nat.reduceLT, Nat.reduceLeDiff, Nat.reduceAdd, Nat.reduceSub]
  simp only [LV.Ii, LV.Bb, LV.Ll]
  have h1 : Short (F23 [outOf ls 0, outOf ls 1, outOf ls 2, outOf ls 3, outOf ls 4, outOf ls 5, outOf ls 6, outOf ls 7, outOf ls 8, outOf ls 9, outOf ls 10, outOf ls 11, outOf ls 12, outOf ls 13, outOf ls 14, outOf ls 15, outOf ls 16, outOf ls 17, outOf ls 18, outOf ls 19, outOf ls 20, outOf ls 21, outOf ls 22, outOf ls 23, outOf ls 24, outOf ls 25]) := short_F23 hs
  generalize F23 [outOf ls 0, outOf ls 1, outOf ls 2, outOf ls 3, outOf ls 4, outOf ls 5, outOf ls 6, outOf ls 7, outOf ls 8, outOf ls 9, outOf ls 10, outOf ls 11, outOf ls 12, outOf ls 13, outOf ls 14, outOf ls 15, outOf ls 16, outOf ls 17, outOf ls 18, outOf ls 19, outOf ls 20, outOf ls 21, outOf ls 22, outOf ls 23, outOf ls 24, outOf ls 25] = A1 at *
  refine ⟨fun _ => trivial, fun _ => trivial, fun _ => R25_same (outOf A1) h1, fun _ => trivial, fun _ => trivial, fun _ => R28_ok (outOf ls) _ hn, fun _ => R28_ok (outOf ls) _ hn, fun _ => R28_ok (outOf ls) _ (in_wrap _), fun _ => R28_ok (outOf ls) _ (in_wrap _), fun _ => trivial, ?_, trivial⟩
  simp only [F25, F30, F5, outOf_z, LV.Bb]
  simp only [Bool.or_eq_true, Bool.and_eq_true, Bool.not_eq_true', tf_t, tf_f, Bool.or_eq_false_iff, Bool.and_eq_false_iff, and_self]
end Go.Proofs.Ythhnnfmfeofknaa.Sy
namespace Go.Proofs.Ythhnnfmfeofknaa
open Go.ChangeShapes Go.WideShapes Go.ChangeAt Go.RowKit
theorem cubicGrows_own : ownKnob Try.prog.godebug = none := by kernel_rfl
theorem cubicGrows_laidOut : laidOutB Try.prog = true := by kernel_rfl
set_option maxRecDepth 100000 in
theorem cubicGrows_lifted (os : Os) (started : os.Started) (H : Type) (enc : TypeId × Value → H) :
    ReturnsInHanded {} Try.checked os 5 .any (Rows.cubicGrowsSpec.pre6 enc Try.prog Try.f5 Rows.cubicGrowsRow.domain false) (Rows.cubicGrowsSpec.post enc Try.prog Try.f5 false true false false) := by
  refine returnsInHanded_of_change (C := Try.checked) cubicGrows_own started (by kernel_rfl) Try.func5
    (ChangeSpec.witness6 (enc := enc) (C := Try.checked) false ⟨#[], #[.agg #[.int .i64 0, .int .i64 0, .int .i64 0, .int .i64 0, .int .i64 0, .int .i64 0, .int .i64 0, .int .i64 0, .int .i64 0, .int .i64 0, .int .i64 0, .slice none 0 0, .int .i64 0, .int .i64 0, .int .i64 0, .int .i64 0, .int .i64 0, .int .i64 0, .int .i64 0, .int .i64 0, .int .i64 0, .int .i64 0], .int .i64 0, .int .i64 0, .int .i64 0, .bool false], []⟩ 8 (by kernel_rfl) (by kernel_rfl) (by kernel_rfl) (by kernel_rfl)) ?_
  intro W base args ds gs before hval0 hW hcnd _
  refine Sy.law_calls (b := 4) (s := Rows.cubicGrowsSpec) (Sy.k5.to (Φ := fun _ => Sy.F5) (Pr := fun _ => Sy.R5) rfl rfl) cubicGrows_laidOut (by kernel_rfl) (by kernel_rfl) (by kernel_rfl) rfl ?_ (fun ls hf => ⟨hf, rfl⟩) hval0 hW
  intro ds hd
  have hd : ds.length = 5 := hd
  rcases ds with _ | ⟨d0, ds⟩
  · simp at hd
  rcases ds with _ | ⟨d1, ds⟩
  · simp at hd
  rcases ds with _ | ⟨d2, ds⟩
  · simp at hd
  rcases ds with _ | ⟨d3, ds⟩
  · simp at hd
  rcases ds with _ | ⟨d4, ds⟩
  · simp at hd
  rcases ds with _ | ⟨d, ds⟩
  · rfl
  · simp at hd
theorem cubicGrows_holds : Rows.CubicGrowsSaid :=
  OpenClaim.holds_of_wide 5 Try.f5 rfl rfl rfl rfl rfl rfl rfl ⟨rfl, rfl, rfl, rfl, rfl⟩ rfl rfl rfl rfl rfl (by kernel_rfl) Try.func5 (by kernel_rfl)
    (of_decide_eq_true (by kernel_rfl)) (by unfold Func.isWrapper; first | (rw [if_pos (by decide +kernel)]; kernel_rfl) | (rw [if_neg (by decide +kernel)]; exact ⟨rfl, rfl⟩))
    (fun os started H enc _ => cubicGrows_lifted os started H enc)
#print axioms cubicGrows_holds
end Go.Proofs.Ythhnnfmfeofknaa

