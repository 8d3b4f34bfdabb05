/-
  cc: fresh controllers, whether one may be, rests, limits, the pace: the program's and the reference's are the same.
-/
import Derived.Test.YthhnnfmfeofknaaCq
namespace Go.Proofs.Ythhnnfmfeofknaa.Sy
open Go Go.RowKit
set_option linter.unusedSimpArgs false
set_option linter.unusedVariables false

def newG (kind mode mss first : Int) : Nat → LV := fun i => if i = 0 then .i kind else if i = 1 then .i mss else if i = 2 then .i (mss * first) else if i = 3 then .i 1073741824 else if i = 10 then .i mode else zeroF i
def FN78 (ls : List LV) : List LV := if NewOk (outOf ls 0).I (outOf ls 1).I then l22 (newG 1 0 (outOf ls 0).I (outOf ls 1).I) ++ [.i 0] else z22 ++ [.i 2]
abbrev FN83 := FN78
def FN51 (ls : List LV) : List LV := if NewOk (outOf ls 0).I (outOf ls 1).I then l22 (newG 3 1 (outOf ls 0).I (outOf ls 1).I) ++ [.i 0] else z22 ++ [.i 2]
abbrev FN52 := FN51

theorem kN78 : Kon Go.Proofs.Try.prog s78 FN78 (fun _ => True) := by
  refine con_ok h78 (by kernel_rfl) Go.Proofs.Try.func78 (by kernel_rfl) c78 ?_
  intro ls _ _
  simp only [t78, Tr.den, L78, M78, ap, apR, if_true, Nat.reduceEqDiff, if_false, List.map_cons, List.map_nil, E.den, O1.ev, ev_add, ev_sub, ev_mul, ev_quo, ev_rem, ev_mx, ev_mn, ev_shl, ev_shr, ev_bit, ev_lt, ev_le, ev_eq, ev_and, ev_or, ev_eqb, ev_cat, ev_rcons, ev_rd, SameL, Col.same]
  simp only [setE_lt, setE_hit, Nat.reduceLT, Nat.reduceLeDiff, Nat.reduceAdd, Nat.reduceSub]
  simp only [FN83, FN78]
  simp only [LV.Ii, LV.Bb, LV.Ll]
  by_cases hb : NewOk (outOf ls 0).I (outOf ls 1).I
  · obtain ⟨w1, w2⟩ := new_wrap hb
    simp only [if_pos hb, w1, w2]
    rw [if_neg (by simp only [NewOk] at hb; first | (simp only [Bool.or_eq_true, Bool.and_eq_true, Bool.not_eq_true', tf_t, tf_f, Bool.or_eq_false_iff, Bool.and_eq_false_iff, not_true_eq_false, not_false_eq_true, false_or, or_false, true_or, or_true, true_and, and_true]; done) | (simp only [Bool.or_eq_true, Bool.and_eq_true, Bool.not_eq_true', tf_t, tf_f, Bool.or_eq_false_iff, Bool.and_eq_false_iff, not_true_eq_false, not_false_eq_true, false_or, or_false, true_or, or_true, true_and, and_true]; omega))]
    simp only [out22, out22b, out22z, out22zb, zeroF, fset, newC, newG, implies_true, Nat.reduceEqDiff, if_true, if_false, setE_lt, setE_hit, Nat.reduceLT, Nat.reduceLeDiff, Nat.reduceAdd, Nat.reduceSub, outOf_z, outOf_s, LV.Ii, LV.Bb, LV.Ll, and_true, and_self, true_and]
  · simp only [if_neg hb]
    rw [if_pos (by simp only [NewOk] at hb; first | (simp only [Bool.or_eq_true, Bool.and_eq_true, Bool.not_eq_true', tf_t, tf_f, Bool.or_eq_false_iff, Bool.and_eq_false_iff, not_true_eq_false, not_false_eq_true, false_or, or_false, true_or, or_true, true_and, and_true]; done) | (simp only [Bool.or_eq_true, Bool.and_eq_true, Bool.not_eq_true', tf_t, tf_f, Bool.or_eq_false_iff, Bool.and_eq_false_iff, not_true_eq_false, not_false_eq_true, false_or, or_false, true_or, or_true, true_and, and_true]; omega))]
    simp only [out22, out22b, out22z, out22zb, zeroF, fset, newC, newG, implies_true, Nat.reduceEqDiff, if_true, if_false, setE_lt, setE_hit, Nat.reduceLT, Nat.reduceLeDiff, Nat.reduceAdd, Nat.reduceSub, outOf_z, outOf_s, LV.Ii, LV.Bb, LV.Ll, and_true, and_self, true_and]
theorem kN83 : Kon Go.Proofs.Try.prog s83 FN83 (fun _ => True) := by
  refine con_ok h83 (by kernel_rfl) Go.Proofs.Try.func83 (by kernel_rfl) c83 ?_
  intro ls _ _
  simp only [t83, Tr.den, L83, M83, ap, apR, if_true, Nat.reduceEqDiff, if_false, List.map_cons, List.map_nil, E.den, O1.ev, ev_add, ev_sub, ev_mul, ev_quo, ev_rem, ev_mx, ev_mn, ev_shl, ev_shr, ev_bit, ev_lt, ev_le, ev_eq, ev_and, ev_or, ev_eqb, ev_cat, ev_rcons, ev_rd, SameL, Col.same]
  simp only [setE_lt, setE_hit, Nat.reduceLT, Nat.reduceLeDiff, Nat.reduceAdd, Nat.reduceSub]
  simp only [FN83, FN78]
  simp only [LV.Ii, LV.Bb, LV.Ll]
  by_cases hb : NewOk (outOf ls 0).I (outOf ls 1).I
  · obtain ⟨w1, w2⟩ := new_wrap hb
    simp only [if_pos hb, w1, w2]
    rw [if_neg (by simp only [NewOk] at hb; first | (simp only [Bool.or_eq_true, Bool.and_eq_true, Bool.not_eq_true', tf_t, tf_f, Bool.or_eq_false_iff, Bool.and_eq_false_iff, not_true_eq_false, not_false_eq_true, false_or, or_false, true_or, or_true, true_and, and_true]; done) | (simp only [Bool.or_eq_true, Bool.and_eq_true, Bool.not_eq_true', tf_t, tf_f, Bool.or_eq_false_iff, Bool.and_eq_false_iff, not_true_eq_false, not_false_eq_true, false_or, or_false, true_or, or_true, true_and, and_true]; omega))]
    simp only [out22, out22b, out22z, out22zb, zeroF, fset, newC, newG, implies_true, Nat.reduceEqDiff, if_true, if_false, setE_lt, setE_hit, Nat.reduceLT, Nat.reduceLeDiff, Nat.reduceAdd, Nat.reduceSub, outOf_z, outOf_s, LV.Ii, LV.Bb, LV.Ll, and_true, and_self, true_and]
  · simp only [if_neg hb]
    rw [if_pos (by simp only [NewOk] at hb; first | (simp only [Bool.or_eq_true, Bool.and_eq_true, Bool.not_eq_true', tf_t, tf_f, Bool.or_eq_false_iff, Bool.and_eq_false_iff, not_true_eq_false, not_false_eq_true, false_or, or_false, true_or, or_true, true_and, and_true]; done) | (simp only [Bool.or_eq_true, Bool.and_eq_true, Bool.not_eq_true', tf_t, tf_f, Bool.or_eq_false_iff, Bool.and_eq_false_iff, not_true_eq_false, not_false_eq_true, false_or, or_false, true_or, or_true, true_and, and_true]; omega))]
    simp only [out22, out22b, out22z, out22zb, zeroF, fset, newC, newG, implies_true, Nat.reduceEqDiff, if_true, if_false, setE_lt, setE_hit, Nat.reduceLT, Nat.reduceLeDiff, Nat.reduceAdd, Nat.reduceSub, outOf_z, outOf_s, LV.Ii, LV.Bb, LV.Ll, and_true, and_self, true_and]
/-! tideway/bbr.New -/
def s51 : Sig := ⟨51, 51, [.col I64, .col I64], [.agg [I64, I64, I64, I64, I64, I64, I64, I64, I64, I64, I64, (.sl [(.int .i64), (.int .i64)]), I64, I64, I64, I64, I64, I64, I64, I64, I64, I64], .col I64]⟩
def t51 : Tr (List (Col × E)) :=
 (.item (.bind 78 [(.v 0), (.v 1)] 2 23)
 (.item (.pre (.kb true) 78 [(.v 0), (.v 1)])
 (.leaf [(I64, (.iteI (.op2 .eq (.v 24) (.ki (0))) (.ki (3)) (.v 2))), (I64, (.v 3)), (I64, (.v 4)), (I64, (.v 5)), (I64, (.v 6)), (I64, (.v 7)), (I64, (.v 8)), (I64, (.v 9)), (I64, (.v 10)), (I64, (.v 11)), (I64, (.iteI (.op2 .eq (.v 24) (.ki (0))) (.ki (1)) (.v 12))), ((.sl [(.int .i64), (.int .i64)]), (.v 13)), (I64, (.v 14)), (I64, (.v 15)), (I64, (.v 16)), (I64, (.v 17)), (I64, (.v 18)), (I64, (.v 19)), (I64, (.v 20)), (I64, (.v 21)), (I64, (.v 22)), (I64, (.v 23)), (I64, (.v 24))])))
theorem c51 : compile Go.Proofs.Try.prog [s78] Go.Proofs.Try.f51 s51.params s51.results = some t51 := by kernel_rfl
def L51 : List (Nat × (List LV → List LV)) := [(78, FN78)]
def M51 : List (Nat × (List LV → Prop)) := []
theorem h51 : ∀ sg, sg ∈ [s78] → ConOk Go.Proofs.Try.prog (ap L51) (apR M51) sg := by
  intro sg h
  simp only [List.mem_cons, List.not_mem_nil, or_false] at h
  rcases h with rfl
  · exact kN78.to rfl rfl
theorem kN51 : Kon Go.Proofs.Try.prog s51 FN51 (fun _ => True) := by
  refine con_ok h51 (by kernel_rfl) Go.Proofs.Try.func51 (by kernel_rfl) c51 ?_
  intro ls _ _
  simp only [t51, Tr.den, L51, M51, ap, apR, if_true, Nat.reduceEqDiff, if_false, List.map_cons, List.map_nil, E.den, O1.ev, ev_add, ev_sub, ev_mul, ev_quo, ev_rem, ev_mx, ev_mn, ev_shl, ev_shr, ev_bit, ev_lt, ev_le, ev_eq, ev_and, ev_or, ev_eqb, ev_cat, ev_rcons, ev_rd, SameL, Col.same]
  simp only [setE_lt, setE_hit, Nat.reduceLT, Nat.reduceLeDiff, Nat.reduceAdd, Nat.reduceSub]
  simp only [LV.Ii, LV.Bb, LV.Ll]
  simp only [FN52, FN51, FN83, FN78, outOf_z, outOf_s, LV.Ii]
  refine ⟨fun _ => trivial, ?_⟩
  by_cases hb : NewOk (outOf ls 0).I (outOf ls 1).I
  · simp only [if_pos hb]
    simp only [out22, out22b, setE_lt, setE_hit, Nat.reduceLT, Nat.reduceLeDiff, Nat.reduceAdd, Nat.reduceSub, outOf_z, outOf_s, LV.Ii, tf_t, if_true]
    skip
    simp only [out22, out22b, out22z, out22zb, zeroF, fset, newC, newG, implies_true, Nat.reduceEqDiff, if_true, if_false, setE_lt, setE_hit, Nat.reduceLT, Nat.reduceLeDiff, Nat.reduceAdd, Nat.reduceSub, outOf_z, outOf_s, LV.Ii, LV.Bb, LV.Ll, and_true, and_self, true_and]
  · simp only [if_neg hb]
    simp only [out22z, out22zb, setE_lt, setE_hit, Nat.reduceLT, Nat.reduceLeDiff, Nat.reduceAdd, Nat.reduceSub, outOf_z, outOf_s, LV.Ii]
    simp only [tf_t, show ¬ ((2 : Int) = 0) by omega, if_false]
    simp only [out22, out22b, out22z, out22zb, zeroF, fset, newC, newG, implies_true, Nat.reduceEqDiff, if_true, if_false, setE_lt, setE_hit, Nat.reduceLT, Nat.reduceLeDiff, Nat.reduceAdd, Nat.reduceSub, outOf_z, outOf_s, LV.Ii, LV.Bb, LV.Ll, and_true, and_self, true_and]
/-! tideway/tidewayref18.New -/
def s52 : Sig := ⟨52, 52, [.col I64, .col I64], [.agg [I64, I64, I64, I64, I64, I64, I64, I64, I64, I64, I64, (.sl [(.int .i64), (.int .i64)]), I64, I64, I64, I64, I64, I64, I64, I64, I64, I64], .col I64]⟩
def t52 : Tr (List (Col × E)) :=
 (.item (.bind 83 [(.v 0), (.v 1)] 2 23)
 (.item (.pre (.kb true) 83 [(.v 0), (.v 1)])
 (.ite (.op1 .not (.op2 .eq (.v 24) (.ki (0))))
 (.leaf [(I64, (.ki (0))), (I64, (.ki (0))), (I64, (.ki (0))), (I64, (.ki (0))), (I64, (.ki (0))), (I64, (.ki (0))), (I64, (.ki (0))), (I64, (.ki (0))), (I64, (.ki (0))), (I64, (.ki (0))), (I64, (.ki (0))), ((.sl [(.int .i64), (.int .i64)]), .lnil), (I64, (.ki (0))), (I64, (.ki (0))), (I64, (.ki (0))), (I64, (.ki (0))), (I64, (.ki (0))), (I64, (.ki (0))), (I64, (.ki (0))), (I64, (.ki (0))), (I64, (.ki (0))), (I64, (.ki (0))), (I64, (.v 24))])
 (.leaf [(I64, (.ki (3))), (I64, (.v 3)), (I64, (.v 4)), (I64, (.v 5)), (I64, (.v 6)), (I64, (.v 7)), (I64, (.v 8)), (I64, (.v 9)), (I64, (.v 10)), (I64, (.v 11)), (I64, (.ki (1))), ((.sl [(.int .i64), (.int .i64)]), (.v 13)), (I64, (.v 14)), (I64, (.v 15)), (I64, (.v 16)), (I64, (.v 17)), (I64, (.v 18)), (I64, (.v 19)), (I64, (.v 20)), (I64, (.v 21)), (I64, (.v 22)), (I64, (.v 23)), (I64, (.ki (0)))]))))
theorem c52 : compile Go.Proofs.Try.prog [s83] Go.Proofs.Try.f52 s52.params s52.results = some t52 := by kernel_rfl
def L52 : List (Nat × (List LV → List LV)) := [(83, FN83)]
def M52 : List (Nat × (List LV → Prop)) := []
theorem h52 : ∀ sg, sg ∈ [s83] → ConOk Go.Proofs.Try.prog (ap L52) (apR M52) sg := by
  intro sg h
  simp only [List.mem_cons, List.not_mem_nil, or_false] at h
  rcases h with rfl
  · exact kN83.to rfl rfl
theorem kN52 : Kon Go.Proofs.Try.prog s52 FN52 (fun _ => True) := by
  refine con_ok h52 (by kernel_rfl) Go.Proofs.Try.func52 (by kernel_rfl) c52 ?_
  intro ls _ _
  simp only [t52, Tr.den, L52, M52, ap, apR, if_true, Nat.reduceEqDiff, if_false, List.map_cons, List.map_nil, E.den, O1.ev, ev_add, ev_sub, ev_mul, ev_quo, ev_rem, ev_mx, ev_mn, ev_shl, ev_shr, ev_bit, ev_lt, ev_le, ev_eq, ev_and, ev_or, ev_eqb, ev_cat, ev_rcons, ev_rd, SameL, Col.same]
  simp only [setE_lt, setE_hit, Nat.reduceLT, Nat.reduceLeDiff, Nat.reduceAdd, Nat.reduceSub]
  simp only [LV.Ii, LV.Bb, LV.Ll]
  simp only [FN52, FN51, FN83, FN78, outOf_z, outOf_s, LV.Ii]
  refine ⟨fun _ => trivial, ?_⟩
  by_cases hb : NewOk (outOf ls 0).I (outOf ls 1).I
  · simp only [if_pos hb]
    simp only [out22, out22b, setE_lt, setE_hit, Nat.reduceLT, Nat.reduceLeDiff, Nat.reduceAdd, Nat.reduceSub, outOf_z, outOf_s, LV.Ii, tf_t, if_true]
    rw [if_neg (by simp [tf_d])]
    simp only [out22, out22b, out22z, out22zb, zeroF, fset, newC, newG, implies_true, Nat.reduceEqDiff, if_true, if_false, setE_lt, setE_hit, Nat.reduceLT, Nat.reduceLeDiff, Nat.reduceAdd, Nat.reduceSub, outOf_z, outOf_s, LV.Ii, LV.Bb, LV.Ll, and_true, and_self, true_and]
  · simp only [if_neg hb]
    simp only [out22z, out22zb, setE_lt, setE_hit, Nat.reduceLT, Nat.reduceLeDiff, Nat.reduceAdd, Nat.reduceSub, outOf_z, outOf_s, LV.Ii]
    rw [if_pos (by simp [tf_d])]
    simp only [out22, out22b, out22z, out22zb, zeroF, fset, newC, newG, implies_true, Nat.reduceEqDiff, if_true, if_false, setE_lt, setE_hit, Nat.reduceLT, Nat.reduceLeDiff, Nat.reduceAdd, Nat.reduceSub, outOf_z, outOf_s, LV.Ii, LV.Bb, LV.Ll, and_true, and_self, true_and]
def F39 (ls : List LV) : List LV := if (outOf ls 0).I = 1 then FN78 [outOf ls 1, outOf ls 2] else if (outOf ls 0).I = 2 then FN31 [outOf ls 1, outOf ls 2] else if (outOf ls 0).I = 3 then FN51 [outOf ls 1, outOf ls 2] else z22 ++ [.i 2]
abbrev F40 := F39
/-! tideway/cc.New -/
def s39 : Sig := ⟨39, 39, [.col I64, .col I64, .col I64], [.agg [I64, I64, I64, I64, I64, I64, I64, I64, I64, I64, I64, (.sl [(.int .i64), (.int .i64)]), I64, I64, I64, I64, I64, I64, I64, I64, I64, I64], .col I64]⟩
def t39 : Tr (List (Col × E)) :=
 (.ite (.op2 .eq (.v 0) (.ki (1)))
 (.item (.bind 78 [(.v 1), (.v 2)] 3 23)
 (.item (.pre (.kb true) 78 [(.v 1), (.v 2)])
 (.leaf [(I64, (.v 3)), (I64, (.v 4)), (I64, (.v 5)), (I64, (.v 6)), (I64, (.v 7)), (I64, (.v 8)), (I64, (.v 9)), (I64, (.v 10)), (I64, (.v 11)), (I64, (.v 12)), (I64, (.v 13)), ((.sl [(.int .i64), (.int .i64)]), (.v 14)), (I64, (.v 15)), (I64, (.v 16)), (I64, (.v 17)), (I64, (.v 18)), (I64, (.v 19)), (I64, (.v 20)), (I64, (.v 21)), (I64, (.v 22)), (I64, (.v 23)), (I64, (.v 24)), (I64, (.v 25))])))
 (.ite (.op2 .eq (.v 0) (.ki (2)))
  (.item (.bind 31 [(.v 1), (.v 2)] 26 23)
  (.item (.pre (.kb true) 31 [(.v 1), (.v 2)])
  (.leaf [(I64, (.v 26)), (I64, (.v 27)), (I64, (.v 28)), (I64, (.v 29)), (I64, (.v 30)), (I64, (.v 31)), (I64, (.v 32)), (I64, (.v 33)), (I64, (.v 34)), (I64, (.v 35)), (I64, (.v 36)), ((.sl [(.int .i64), (.int .i64)]), (.v 37)), (I64, (.v 38)), (I64, (.v 39)), (I64, (.v 40)), (I64, (.v 41)), (I64, (.v 42)), (I64, (.v 43)), (I64, (.v 44)), (I64, (.v 45)), (I64, (.v 46)), (I64, (.v 47)), (I64, (.v 48))])))
  (.ite (.op2 .eq (.v 0) (.ki (3)))
   (.item (.bind 51 [(.v 1), (.v 2)] 49 23)
   (.item (.pre (.kb true) 51 [(.v 1), (.v 2)])
   (.leaf [(I64, (.v 49)), (I64, (.v 50)), (I64, (.v 51)), (I64, (.v 52)), (I64, (.v 53)), (I64, (.v 54)), (I64, (.v 55)), (I64, (.v 56)), (I64, (.v 57)), (I64, (.v 58)), (I64, (.v 59)), ((.sl [(.int .i64), (.int .i64)]), (.v 60)), (I64, (.v 61)), (I64, (.v 62)), (I64, (.v 63)), (I64, (.v 64)), (I64, (.v 65)), (I64, (.v 66)), (I64, (.v 67)), (I64, (.v 68)), (I64, (.v 69)), (I64, (.v 70)), (I64, (.v 71))])))
   (.leaf [(I64, (.ki (0))), (I64, (.ki (0))), (I64, (.ki (0))), (I64, (.ki (0))), (I64, (.ki (0))), (I64, (.ki (0))), (I64, (.ki (0))), (I64, (.ki (0))), (I64, (.ki (0))), (I64, (.ki (0))), (I64, (.ki (0))), ((.sl [(.int .i64), (.int .i64)]), .lnil), (I64, (.ki (0))), (I64, (.ki (0))), (I64, (.ki (0))), (I64, (.ki (0))), (I64, (.ki (0))), (I64, (.ki (0))), (I64, (.ki (0))), (I64, (.ki (0))), (I64, (.ki (0))), (I64, (.ki (0))), (I64, (.ki (2)))]))))
theorem c39 : compile Go.Proofs.Try.prog [s31, s51, s78] Go.Proofs.Try.f39 s39.params s39.results = some t39 := by kernel_rfl
def L39 : List (Nat × (List LV → List LV)) := [(31, FN31), (51, FN51), (78, FN78)]
def M39 : List (Nat × (List LV → Prop)) := []
theorem h39 : ∀ sg, sg ∈ [s31, s51, s78] → ConOk Go.Proofs.Try.prog (ap L39) (apR M39) sg := by
  intro sg h
  simp only [List.mem_cons, List.not_mem_nil, or_false] at h
  rcases h with rfl | rfl | rfl
  · exact kN31.to rfl rfl
  · exact kN51.to rfl rfl
  · exact kN78.to rfl rfl
set_option maxRecDepth 100000 in
theorem k39 : Kon Go.Proofs.Try.prog s39 F39 (fun _ => True) := by
  refine con_ok h39 (by kernel_rfl) Go.Proofs.Try.func39 (by kernel_rfl) c39 ?_
  intro ls _ _
  simp only [t39, Tr.den, L39, M39, ap, apR, if_true, Nat.reduceEqDiff, if_false, List.map_cons, List.map_nil, E.den, O1.ev, ev_add, ev_sub, ev_mul, ev_quo, ev_rem, ev_mx, ev_mn, ev_shl, ev_shr, ev_bit, ev_lt, ev_le, ev_eq, ev_and, ev_or, ev_eqb, ev_cat, ev_rcons, ev_rd, SameL, Col.same]
  simp only [setE_lt, setE_hit, Nat.reduceLT, Nat.reduceLeDiff, Nat.reduceAdd, Nat.reduceSub]
  simp only [LV.Ii, LV.Bb, LV.Ll]
  simp only [F40, F39, FN83, FN38, FN52, tf_t]
  by_cases h1 : (outOf ls 0).I = 1
  · simp only [if_pos h1, implies_true, true_and, and_true, and_self]
  simp only [if_neg h1]
  by_cases h2 : (outOf ls 0).I = 2
  · simp only [if_pos h2, implies_true, true_and, and_true, and_self]
  simp only [if_neg h2]
  by_cases h3 : (outOf ls 0).I = 3
  · simp only [if_pos h3, implies_true, true_and, and_true, and_self]
  simp only [if_neg h3]
  simp only [out22, out22b, out22z, out22zb, zeroF, fset, newC, newG, implies_true, Nat.reduceEqDiff, if_true, if_false, setE_lt, setE_hit, Nat.reduceLT, Nat.reduceLeDiff, Nat.reduceAdd, Nat.reduceSub, outOf_z, outOf_s, LV.Ii, LV.Bb, LV.Ll, and_true, and_self, true_and]
/-! tideway/tidewayref19.New -/
def s40 : Sig := ⟨40, 40, [.col I64, .col I64, .col I64], [.agg [I64, I64, I64, I64, I64, I64, I64, I64, I64, I64, I64, (.sl [(.int .i64), (.int .i64)]), I64, I64, I64, I64, I64, I64, I64, I64, I64, I64], .col I64]⟩
def t40 : Tr (List (Col × E)) :=
 (.ite (.op2 .eq (.v 0) (.ki (1)))
 (.item (.bind 83 [(.v 1), (.v 2)] 3 23)
 (.item (.pre (.kb true) 83 [(.v 1), (.v 2)])
 (.leaf [(I64, (.v 3)), (I64, (.v 4)), (I64, (.v 5)), (I64, (.v 6)), (I64, (.v 7)), (I64, (.v 8)), (I64, (.v 9)), (I64, (.v 10)), (I64, (.v 11)), (I64, (.v 12)), (I64, (.v 13)), ((.sl [(.int .i64), (.int .i64)]), (.v 14)), (I64, (.v 15)), (I64, (.v 16)), (I64, (.v 17)), (I64, (.v 18)), (I64, (.v 19)), (I64, (.v 20)), (I64, (.v 21)), (I64, (.v 22)), (I64, (.v 23)), (I64, (.v 24)), (I64, (.v 25))])))
 (.ite (.op2 .eq (.v 0) (.ki (2)))
  (.item (.bind 38 [(.v 1), (.v 2)] 26 23)
  (.item (.pre (.kb true) 38 [(.v 1), (.v 2)])
  (.leaf [(I64, (.v 26)), (I64, (.v 27)), (I64, (.v 28)), (I64, (.v 29)), (I64, (.v 30)), (I64, (.v 31)), (I64, (.v 32)), (I64, (.v 33)), (I64, (.v 34)), (I64, (.v 35)), (I64, (.v 36)), ((.sl [(.int .i64), (.int .i64)]), (.v 37)), (I64, (.v 38)), (I64, (.v 39)), (I64, (.v 40)), (I64, (.v 41)), (I64, (.v 42)), (I64, (.v 43)), (I64, (.v 44)), (I64, (.v 45)), (I64, (.v 46)), (I64, (.v 47)), (I64, (.v 48))])))
  (.ite (.op2 .eq (.v 0) (.ki (3)))
   (.item (.bind 52 [(.v 1), (.v 2)] 49 23)
   (.item (.pre (.kb true) 52 [(.v 1), (.v 2)])
   (.leaf [(I64, (.v 49)), (I64, (.v 50)), (I64, (.v 51)), (I64, (.v 52)), (I64, (.v 53)), (I64, (.v 54)), (I64, (.v 55)), (I64, (.v 56)), (I64, (.v 57)), (I64, (.v 58)), (I64, (.v 59)), ((.sl [(.int .i64), (.int .i64)]), (.v 60)), (I64, (.v 61)), (I64, (.v 62)), (I64, (.v 63)), (I64, (.v 64)), (I64, (.v 65)), (I64, (.v 66)), (I64, (.v 67)), (I64, (.v 68)), (I64, (.v 69)), (I64, (.v 70)), (I64, (.v 71))])))
   (.leaf [(I64, (.ki (0))), (I64, (.ki (0))), (I64, (.ki (0))), (I64, (.ki (0))), (I64, (.ki (0))), (I64, (.ki (0))), (I64, (.ki (0))), (I64, (.ki (0))), (I64, (.ki (0))), (I64, (.ki (0))), (I64, (.ki (0))), ((.sl [(.int .i64), (.int .i64)]), .lnil), (I64, (.ki (0))), (I64, (.ki (0))), (I64, (.ki (0))), (I64, (.ki (0))), (I64, (.ki (0))), (I64, (.ki (0))), (I64, (.ki (0))), (I64, (.ki (0))), (I64, (.ki (0))), (I64, (.ki (0))), (I64, (.ki (2)))]))))
theorem c40 : compile Go.Proofs.Try.prog [s38, s52, s83] Go.Proofs.Try.f40 s40.params s40.results = some t40 := by kernel_rfl
def L40 : List (Nat × (List LV → List LV)) := [(38, FN38), (52, FN52), (83, FN83)]
def M40 : List (Nat × (List LV → Prop)) := []
theorem h40 : ∀ sg, sg ∈ [s38, s52, s83] → ConOk Go.Proofs.Try.prog (ap L40) (apR M40) sg := by
  intro sg h
  simp only [List.mem_cons, List.not_mem_nil, or_false] at h
  rcases h with rfl | rfl | rfl
  · exact kN38.to rfl rfl
  · exact kN52.to rfl rfl
  · exact kN83.to rfl rfl
set_option maxRecDepth 100000 in
theorem k40 : Kon Go.Proofs.Try.prog s40 F40 (fun _ => True) := by
  refine con_ok h40 (by kernel_rfl) Go.Proofs.Try.func40 (by kernel_rfl) c40 ?_
  intro ls _ _
  simp only [t40, Tr.den, L40, M40, ap, apR, if_true, Nat.reduceEqDiff, if_false, List.map_cons, List.map_nil, E.den, O1.ev, ev_add, ev_sub, ev_mul, ev_quo, ev_rem, ev_mx, ev_mn, ev_shl, ev_shr, ev_bit, ev_lt, ev_le, ev_eq, ev_and, ev_or, ev_eqb, ev_cat, ev_rcons, ev_rd, SameL, Col.same]
  simp only [setE_lt, setE_hit, Nat.reduceLT, Nat.reduceLeDiff, Nat.reduceAdd, Nat.reduceSub]
  simp only [LV.Ii, LV.Bb, LV.Ll]
  simp only [F40, F39, FN83, FN38, FN52, tf_t]
  by_cases h1 : (outOf ls 0).I = 1
  · simp only [if_pos h1, implies_true, true_and, and_true, and_self]
  simp only [if_neg h1]
  by_cases h2 : (outOf ls 0).I = 2
  · simp only [if_pos h2, implies_true, true_and, and_true, and_self]
  simp only [if_neg h2]
  by_cases h3 : (outOf ls 0).I = 3
  · simp only [if_pos h3, implies_true, true_and, and_true, and_self]
  simp only [if_neg h3]
  simp only [out22, out22b, out22z, out22zb, zeroF, fset, newC, newG, implies_true, Nat.reduceEqDiff, if_true, if_false, setE_lt, setE_hit, Nat.reduceLT, Nat.reduceLeDiff, Nat.reduceAdd, Nat.reduceSub, outOf_z, outOf_s, LV.Ii, LV.Bb, LV.Ll, and_true, and_self, true_and]
abbrev CcOk (f : Nat → LV) : Prop := RenoOk f ∨ CubicOk f ∨ BbrOk f
instance (f : Nat → LV) : Decidable (CcOk f) := @instDecidableOr _ _ inferInstance (@instDecidableOr _ _ inferInstance inferInstance)
theorem cc1 {f : Nat → LV} (h : (f 0).I = 1) : CcOk f ↔ RenoOk f := ⟨fun h' => by rcases h' with h' | h' | h'; exact h'; exact absurd h'.1 (by omega); exact absurd h'.1.1 (by omega), Or.inl⟩
theorem cc2 {f : Nat → LV} (h : (f 0).I = 2) : CcOk f ↔ CubicOk f := ⟨fun h' => by rcases h' with h' | h' | h'; exact absurd h'.1 (by omega); exact h'; exact absurd h'.1.1 (by omega), fun h' => .inr (.inl h')⟩
theorem cc3 {f : Nat → LV} (h1 : (f 0).I ≠ 1) (h2 : (f 0).I ≠ 2) : CcOk f ↔ BbrOk f := ⟨fun h' => by rcases h' with h' | h' | h'; exact absurd h'.1 h1; exact absurd h'.1 h2; exact h', fun h' => .inr (.inr h')⟩
theorem cc_bounds {f : Nat → LV} (h : CcOk f) : (1 ≤ (f 1).I ∧ (f 1).I ≤ 65000) ∧ (f 1).I ≤ (f 2).I ∧ (f 2).I ≤ 1073741824 ∧ 2 * (f 1).I ≤ (f 3).I ∧ (f 3).I ≤ 1073741824 := by
  rcases h with h | h | h
  · unfold RenoOk Common at h; omega
  · unfold CubicOk Common at h; omega
  · obtain ⟨h, _⟩ := h; unfold BbrPlain at h; omega
def F41 (ls : List LV) : List LV := [.i (if CcOk (outOf ls) then 0 else 230)]
abbrev F87 := F41
abbrev R41 := R53
abbrev R87 := R53
theorem E41 (ls : List LV) : (outOf (F41 ls) 0).I = if CcOk (outOf ls) then 0 else 230 := by simp only [F41, outOf_z, LV.Ii]
theorem rok22 (ρ : Nat → LV) : RenoOk (outOf [ρ 0, ρ 1, ρ 2, ρ 3, ρ 4, ρ 5, ρ 6, ρ 7, ρ 8, ρ 9, ρ 10, ρ 11, ρ 12, ρ 13, ρ 14, ρ 15, ρ 16, ρ 17, ρ 18, ρ 19, ρ 20, ρ 21]) ↔ RenoOk ρ := Iff.rfl
theorem ccok22 (ρ : Nat → LV) : CcOk (outOf [ρ 0, ρ 1, ρ 2, ρ 3, ρ 4, ρ 5, ρ 6, ρ 7, ρ 8, ρ 9, ρ 10, ρ 11, ρ 12, ρ 13, ρ 14, ρ 15, ρ 16, ρ 17, ρ 18, ρ 19, ρ 20, ρ 21]) ↔ CcOk ρ := Iff.rfl
theorem same_if {P Q : Prop} [Decidable P] [Decidable Q] (h : Q ↔ P) : (if P then (0 : Int) else 230) = (if Q then 0 else 230) := by
  by_cases hp : P
  · rw [if_pos hp, if_pos (h.2 hp)]
  · rw [if_neg hp, if_neg (fun hq => hp (h.1 hq))]
/-! tideway/cc.Check -/
def s41 : Sig := ⟨41, 41, [.agg [I64, I64, I64, I64, I64, I64, I64, I64, I64, I64, I64, (.sl [(.int .i64), (.int .i64)]), I64, I64, I64, I64, I64, I64, I64, I64, I64, I64]], [.col I64]⟩
def t41 : Tr (List (Col × E)) :=
 (.ite (.op2 .eq (.v 0) (.ki (1)))
 (.item (.bind 72 [(.v 0), (.v 1), (.v 2), (.v 3), (.v 4), (.v 5), (.v 6), (.v 7), (.v 8), (.v 9), (.v 10), (.v 11), (.v 12), (.v 13), (.v 14), (.v 15), (.v 16), (.v 17), (.v 18), (.v 19), (.v 20), (.v 21)] 22 1)
 (.item (.pre (.kb true) 72 [(.v 0), (.v 1), (.v 2), (.v 3), (.v 4), (.v 5), (.v 6), (.v 7), (.v 8), (.v 9), (.v 10), (.v 11), (.v 12), (.v 13), (.v 14), (.v 15), (.v 16), (.v 17), (.v 18), (.v 19), (.v 20), (.v 21)])
 (.leaf [(I64, (.v 22))])))
 (.ite (.op2 .eq (.v 0) (.ki (2)))
  (.item (.bind 26 [(.v 0), (.v 1), (.v 2), (.v 3), (.v 4), (.v 5), (.v 6), (.v 7), (.v 8), (.v 9), (.v 10), (.v 11), (.v 12), (.v 13), (.v 14), (.v 15), (.v 16), (.v 17), (.v 18), (.v 19), (.v 20), (.v 21)] 23 1)
  (.item (.pre (.kb true) 26 [(.v 0), (.v 1), (.v 2), (.v 3), (.v 4), (.v 5), (.v 6), (.v 7), (.v 8), (.v 9), (.v 10), (.v 11), (.v 12), (.v 13), (.v 14), (.v 15), (.v 16), (.v 17), (.v 18), (.v 19), (.v 20), (.v 21)])
  (.leaf [(I64, (.v 23))])))
  (.item (.bind 53 [(.v 0), (.v 1), (.v 2), (.v 3), (.v 4), (.v 5), (.v 6), (.v 7), (.v 8), (.v 9), (.v 10), (.v 11), (.v 12), (.v 13), (.v 14), (.v 15), (.v 16), (.v 17), (.v 18), (.v 19), (.v 20), (.v 21)] 24 1)
  (.item (.pre (.kb true) 53 [(.v 0), (.v 1), (.v 2), (.v 3), (.v 4), (.v 5), (.v 6), (.v 7), (.v 8), (.v 9), (.v 10), (.v 11), (.v 12), (.v 13), (.v 14), (.v 15), (.v 16), (.v 17), (.v 18), (.v 19), (.v 20), (.v 21)])
  (.leaf [(I64, (.v 24))])))))
theorem c41 : compile Go.Proofs.Try.prog [s26, s53, s72] Go.Proofs.Try.f41 s41.params s41.results = some t41 := by kernel_rfl
def L41 : List (Nat × (List LV → List LV)) := [(26, F26), (53, F53), (72, F72)]
def M41 : List (Nat × (List LV → Prop)) := [(53, R53)]
theorem h41 : ∀ sg, sg ∈ [s26, s53, s72] → ConOk Go.Proofs.Try.prog (ap L41) (apR M41) sg := by
  intro sg h
  simp only [List.mem_cons, List.not_mem_nil, or_false] at h
  rcases h with rfl | rfl | rfl
  · exact k26.to rfl rfl
  · exact k53.to rfl rfl
  · exact k72.to rfl rfl
set_option maxRecDepth 100000 in
theorem k41 : Kon Go.Proofs.Try.prog s41 F41 R41 := by
  refine con_ok h41 (by kernel_rfl) Go.Proofs.Try.func41 (by kernel_rfl) c41 ?_
  intro ls _ hr
  simp only [t41, Tr.den, L41, M41, ap, apR, if_true, Nat.reduceEqDiff, if_false, List.map_cons, List.map_nil, E.den, O1.ev, ev_add, ev_sub, ev_mul, ev_quo, ev_rem, ev_mx, ev_mn, ev_shl, ev_shr, ev_bit, ev_lt, ev_le, ev_eq, ev_and, ev_or, ev_eqb, ev_cat, ev_rcons, ev_rd, SameL, Col.same]
  simp only [setE_lt, setE_hit, Nat.reduceLT, Nat.reduceLeDiff, Nat.reduceAdd, Nat.reduceSub]
  simp only [F94, F27, E72, E26, E53, E110]
  simp only [rok22 (outOf ls), cok22 (outOf ls), bok22 (outOf ls)]
  simp only [LV.Ii, LV.Bb, LV.Ll]
  simp only [F87, F41, outOf_z, LV.Ii, tf_t, implies_true, true_and, and_true]
  by_cases h1 : (outOf ls 0).I = 1
  · rw [if_pos h1]
    exact same_if (cc1 h1)
  rw [if_neg h1]
  by_cases h2 : (outOf ls 0).I = 2
  · rw [if_pos h2]
    exact same_if (cc2 h2)
  rw [if_neg h2]
  exact ⟨fun _ => R53_ok (outOf ls) hr, same_if (cc3 h1 h2)⟩
/-! tideway/tidewayref19.Check -/
def s87 : Sig := ⟨87, 87, [.agg [I64, I64, I64, I64, I64, I64, I64, I64, I64, I64, I64, (.sl [(.int .i64), (.int .i64)]), I64, I64, I64, I64, I64, I64, I64, I64, I64, I64]], [.col I64]⟩
def t87 : Tr (List (Col × E)) :=
 (.ite (.op2 .eq (.v 0) (.ki (1)))
 (.item (.bind 110 [(.v 0), (.v 1), (.v 2), (.v 3), (.v 4), (.v 5), (.v 6), (.v 7), (.v 8), (.v 9), (.v 10), (.v 11), (.v 12), (.v 13), (.v 14), (.v 15), (.v 16), (.v 17), (.v 18), (.v 19), (.v 20), (.v 21)] 22 1)
 (.item (.pre (.kb true) 110 [(.v 0), (.v 1), (.v 2), (.v 3), (.v 4), (.v 5), (.v 6), (.v 7), (.v 8), (.v 9), (.v 10), (.v 11), (.v 12), (.v 13), (.v 14), (.v 15), (.v 16), (.v 17), (.v 18), (.v 19), (.v 20), (.v 21)])
 (.leaf [(I64, (.v 22))])))
 (.ite (.op2 .eq (.v 0) (.ki (2)))
  (.item (.bind 27 [(.v 0), (.v 1), (.v 2), (.v 3), (.v 4), (.v 5), (.v 6), (.v 7), (.v 8), (.v 9), (.v 10), (.v 11), (.v 12), (.v 13), (.v 14), (.v 15), (.v 16), (.v 17), (.v 18), (.v 19), (.v 20), (.v 21)] 23 1)
  (.item (.pre (.kb true) 27 [(.v 0), (.v 1), (.v 2), (.v 3), (.v 4), (.v 5), (.v 6), (.v 7), (.v 8), (.v 9), (.v 10), (.v 11), (.v 12), (.v 13), (.v 14), (.v 15), (.v 16), (.v 17), (.v 18), (.v 19), (.v 20), (.v 21)])
  (.leaf [(I64, (.v 23))])))
  (.ite (.op2 .eq (.v 0) (.ki (3)))
   (.item (.bind 94 [(.v 0), (.v 1), (.v 2), (.v 3), (.v 4), (.v 5), (.v 6), (.v 7), (.v 8), (.v 9), (.v 10), (.v 11), (.v 12), (.v 13), (.v 14), (.v 15), (.v 16), (.v 17), (.v 18), (.v 19), (.v 20), (.v 21)] 24 1)
   (.item (.pre (.kb true) 94 [(.v 0), (.v 1), (.v 2), (.v 3), (.v 4), (.v 5), (.v 6), (.v 7), (.v 8), (.v 9), (.v 10), (.v 11), (.v 12), (.v 13), (.v 14), (.v 15), (.v 16), (.v 17), (.v 18), (.v 19), (.v 20), (.v 21)])
   (.leaf [(I64, (.v 24))])))
   (.leaf [(I64, (.ki (230)))]))))
theorem c87 : compile Go.Proofs.Try.prog [s27, s94, s110] Go.Proofs.Try.f87 s87.params s87.results = some t87 := by kernel_rfl
def L87 : List (Nat × (List LV → List LV)) := [(27, F27), (94, F94), (110, F110)]
def M87 : List (Nat × (List LV → Prop)) := [(94, R94)]
theorem h87 : ∀ sg, sg ∈ [s27, s94, s110] → ConOk Go.Proofs.Try.prog (ap L87) (apR M87) sg := by
  intro sg h
  simp only [List.mem_cons, List.not_mem_nil, or_false] at h
  rcases h with rfl | rfl | rfl
  · exact k27.to rfl rfl
  · exact k94.to rfl rfl
  · exact k110.to rfl rfl
set_option maxRecDepth 100000 in
theorem k87 : Kon Go.Proofs.Try.prog s87 F87 R87 := by
  refine con_ok h87 (by kernel_rfl) Go.Proofs.Try.func87 (by kernel_rfl) c87 ?_
  intro ls _ hr
  simp only [t87, Tr.den, L87, M87, ap, apR, if_true, Nat.reduceEqDiff, if_false, List.map_cons, List.map_nil, E.den, O1.ev, ev_add, ev_sub, ev_mul, ev_quo, ev_rem, ev_mx, ev_mn, ev_shl, ev_shr, ev_bit, ev_lt, ev_le, ev_eq, ev_and, ev_or, ev_eqb, ev_cat, ev_rcons, ev_rd, SameL, Col.same]
  simp only [setE_lt, setE_hit, Nat.reduceLT, Nat.reduceLeDiff, Nat.reduceAdd, Nat.reduceSub]
  simp only [F94, F27, E72, E26, E53, E110]
  simp only [rok22 (outOf ls), cok22 (outOf ls), bok22 (outOf ls)]
  simp only [LV.Ii, LV.Bb, LV.Ll]
  simp only [F87, F41, outOf_z, LV.Ii, tf_t, implies_true, true_and, and_true]
  by_cases h1 : (outOf ls 0).I = 1
  · rw [if_pos h1]
    exact same_if (cc1 h1)
  rw [if_neg h1]
  by_cases h2 : (outOf ls 0).I = 2
  · rw [if_pos h2]
    exact same_if (cc2 h2)
  rw [if_neg h2]
  by_cases h3 : (outOf ls 0).I = 3
  case neg =>
    rw [if_neg h3]
    exact choose230' (fun h => h3 ((cc3 h1 h2).1 h).1.1)
  rw [if_pos h3]
  exact ⟨fun _ => R53_ok (outOf ls) hr, same_if (cc3 h1 h2)⟩
def F84 (ls : List LV) : List LV := [.i (if CcOk (outOf ls) then (if (outOf ls 22).B = true then 0 else 2) else 230)]
abbrev R84 := R53
theorem E84 (ρ : Nat → LV) (x : LV) : (outOf (F84 [ρ 0, ρ 1, ρ 2, ρ 3, ρ 4, ρ 5, ρ 6, ρ 7, ρ 8, ρ 9, ρ 10, ρ 11, ρ 12, ρ 13, ρ 14, ρ 15, ρ 16, ρ 17, ρ 18, ρ 19, ρ 20, ρ 21, x]) 0).I = if CcOk ρ then (if x.B = true then 0 else 2) else 230 := by
  simp only [F84, outOf_z, LV.Ii]
  rfl
/-! tideway/cc.asked -/
def s84 : Sig := ⟨84, 84, [.agg [I64, I64, I64, I64, I64, I64, I64, I64, I64, I64, I64, (.sl [(.int .i64), (.int .i64)]), I64, I64, I64, I64, I64, I64, I64, I64, I64, I64], .col (.base .bool)], [.col I64]⟩
def t84 : Tr (List (Col × E)) :=
 (.item (.bind 41 [(.v 0), (.v 1), (.v 2), (.v 3), (.v 4), (.v 5), (.v 6), (.v 7), (.v 8), (.v 9), (.v 10), (.v 11), (.v 12), (.v 13), (.v 14), (.v 15), (.v 16), (.v 17), (.v 18), (.v 19), (.v 20), (.v 21)] 23 1)
 (.item (.pre (.kb true) 41 [(.v 0), (.v 1), (.v 2), (.v 3), (.v 4), (.v 5), (.v 6), (.v 7), (.v 8), (.v 9), (.v 10), (.v 11), (.v 12), (.v 13), (.v 14), (.v 15), (.v 16), (.v 17), (.v 18), (.v 19), (.v 20), (.v 21)])
 (.ite (.op1 .not (.op2 .eq (.v 23) (.ki (0))))
 (.leaf [(I64, (.v 23))])
 (.ite (.op1 .not (.v 22))
  (.leaf [(I64, (.ki (2)))])
  (.leaf [(I64, (.ki (0)))])))))
theorem c84 : compile Go.Proofs.Try.prog [s41] Go.Proofs.Try.f84 s84.params s84.results = some t84 := by kernel_rfl
def L84 : List (Nat × (List LV → List LV)) := [(41, F41)]
def M84 : List (Nat × (List LV → Prop)) := [(41, R41)]
theorem h84 : ∀ sg, sg ∈ [s41] → ConOk Go.Proofs.Try.prog (ap L84) (apR M84) sg := by
  intro sg h
  simp only [List.mem_cons, List.not_mem_nil, or_false] at h
  rcases h with rfl
  · exact k41.to rfl rfl
set_option maxRecDepth 100000 in
theorem k84 : Kon Go.Proofs.Try.prog s84 F84 R84 := by
  refine con_ok h84 (by kernel_rfl) Go.Proofs.Try.func84 (by kernel_rfl) c84 ?_
  intro ls _ hr
  simp only [t84, Tr.den, L84, M84, ap, apR, if_true, Nat.reduceEqDiff, if_false, List.map_cons, List.map_nil, E.den, O1.ev, ev_add, ev_sub, ev_mul, ev_quo, ev_rem, ev_mx, ev_mn, ev_shl, ev_shr, ev_bit, ev_lt, ev_le, ev_eq, ev_and, ev_or, ev_eqb, ev_cat, ev_rcons, ev_rd, SameL, Col.same]
  simp only [setE_lt, setE_hit, Nat.reduceLT, Nat.reduceLeDiff, Nat.reduceAdd, Nat.reduceSub]
  simp only [E41]
  simp only [ccok22 (outOf ls)]
  simp only [LV.Ii, LV.Bb, LV.Ll]
  simp only [F84, outOf_z, LV.Ii]
  refine ⟨fun _ => R53_ok (outOf ls) hr, ?_⟩
  by_cases hok : CcOk (outOf ls)
  · rw [if_pos hok, if_neg (by simp [tf_d]), if_pos hok]
    cases (outOf ls 22).B
    · exact ⟨rfl, trivial⟩
    · exact ⟨rfl, trivial⟩
  · rw [if_neg hok, if_pos (by simp [tf_d]), if_neg hok]
    exact ⟨rfl, trivial⟩
def restC (f : Nat → LV) (idle rto used : Int) : Nat → LV :=
  if (f 0).I = 3 ∨ rto = 0 ∨ idle ≤ rto then f
  else fset (fset f 3 (.i (max (f 3).I (3 * (f 2).I / 4)))) 2 (.i (min (f 2).I (max (max ((f 2).I / 2 ^ (min 20 (idle / rto)).toNat) used) (2 * (f 1).I))))
def F43 (ls : List LV) : List LV := if CcOk (outOf ls) then if (TimeI (outOf ls 22).I ∧ TimeI (outOf ls 23).I) ∧ SizeI (outOf ls 24).I then l22 (restC (outOf ls) (outOf ls 22).I (outOf ls 23).I (outOf ls 24).I) ++ [.i 0] else z22 ++ [.i 2] else z22 ++ [.i 230]
abbrev F44 := F43
abbrev R43 := R53
abbrev R44 := R53
theorem rest_facts {f : Nat → LV} (h : CcOk f) : IntKind.i64.wrap (2 * (f 1).I) = 2 * (f 1).I ∧ IntKind.i64.wrap ((IntKind.i64.wrap (3 * (f 2).I)).tdiv 4) = 3 * (f 2).I / 4 ∧ IntKind.i64.wrap ((IntKind.i64.wrap ((f 2).I * 3)).tdiv 4) = 3 * (f 2).I / 4 := by
  have := cc_bounds h
  rw [Int.mul_comm (f 2).I 3, wrap_i64 (n := 2 * (f 1).I) (by omega) (by omega), wrap_i64 (n := 3 * (f 2).I) (by omega) (by omega), Int.tdiv_eq_ediv_of_nonneg (by omega), wrap_i64 (by omega) (by omega)]
  exact ⟨rfl, rfl, rfl⟩
theorem div_facts {a b : Int} (ha : TimeI a) (hb : TimeI b) (h0 : b ≠ 0) : IntKind.i64.wrap (a.tdiv b) = a / b ∧ 0 ≤ a / b ∧ a / b ≤ 1125899906842624 := by
  have h1 : 0 ≤ a / b := Int.ediv_nonneg ha.1 hb.1
  have h2 : a / b ≤ a := Int.ediv_le_self _ ha.1
  have := ha.2
  rw [Int.tdiv_eq_ediv_of_nonneg ha.1, wrap_i64 (by omega) (by omega)]
  exact ⟨rfl, h1, by omega⟩
/-! tideway/cc.Rest -/
def s43 : Sig := ⟨43, 43, [.agg [I64, I64, I64, I64, I64, I64, I64, I64, I64, I64, I64, (.sl [(.int .i64), (.int .i64)]), I64, I64, I64, I64, I64, I64, I64, I64, I64, I64], .col I64, .col I64, .col I64], [.agg [I64, I64, I64, I64, I64, I64, I64, I64, I64, I64, I64, (.sl [(.int .i64), (.int .i64)]), I64, I64, I64, I64, I64, I64, I64, I64, I64, I64], .col I64]⟩
def t43 : Tr (List (Col × E)) :=
 (.item (.bind 85 [(.v 22)] 25 1)
 (.item (.bind 85 [(.v 23)] 26 1)
 (.item (.bind 86 [(.v 24)] 27 1)
 (.item (.bind 84 [(.v 0), (.v 1), (.v 2), (.v 3), (.v 4), (.v 5), (.v 6), (.v 7), (.v 8), (.v 9), (.v 10), (.v 11), (.v 12), (.v 13), (.v 14), (.v 15), (.v 16), (.v 17), (.v 18), (.v 19), (.v 20), (.v 21), (.op2 .and (.op2 .and (.v 25) (.v 26)) (.v 27))] 28 1)
 (.item (.pre (.kb true) 85 [(.v 22)])
 (.item (.pre (.v 25) 85 [(.v 23)])
 (.item (.pre (.op2 .and (.v 25) (.v 26)) 86 [(.v 24)])
 (.item (.pre (.kb true) 84 [(.v 0), (.v 1), (.v 2), (.v 3), (.v 4), (.v 5), (.v 6), (.v 7), (.v 8), (.v 9), (.v 10), (.v 11), (.v 12), (.v 13), (.v 14), (.v 15), (.v 16), (.v 17), (.v 18), (.v 19), (.v 20), (.v 21), (.op2 .and (.op2 .and (.v 25) (.v 26)) (.v 27))])
 (.ite (.op1 .not (.op2 .eq (.v 28) (.ki (0))))
 (.leaf [(I64, (.ki (0))), (I64, (.ki (0))), (I64, (.ki (0))), (I64, (.ki (0))), (I64, (.ki (0))), (I64, (.ki (0))), (I64, (.ki (0))), (I64, (.ki (0))), (I64, (.ki (0))), (I64, (.ki (0))), (I64, (.ki (0))), ((.sl [(.int .i64), (.int .i64)]), .lnil), (I64, (.ki (0))), (I64, (.ki (0))), (I64, (.ki (0))), (I64, (.ki (0))), (I64, (.ki (0))), (I64, (.ki (0))), (I64, (.ki (0))), (I64, (.ki (0))), (I64, (.ki (0))), (I64, (.ki (0))), (I64, (.v 28))])
 (.ite (.op2 .or (.op2 .or (.op2 .eq (.v 0) (.ki (3))) (.op2 .eq (.v 23) (.ki (0)))) (.op2 .le (.v 22) (.v 23)))
  (.leaf [(I64, (.v 0)), (I64, (.v 1)), (I64, (.v 2)), (I64, (.v 3)), (I64, (.v 4)), (I64, (.v 5)), (I64, (.v 6)), (I64, (.v 7)), (I64, (.v 8)), (I64, (.v 9)), (I64, (.v 10)), ((.sl [(.int .i64), (.int .i64)]), (.v 11)), (I64, (.v 12)), (I64, (.v 13)), (I64, (.v 14)), (I64, (.v 15)), (I64, (.v 16)), (I64, (.v 17)), (I64, (.v 18)), (I64, (.v 19)), (I64, (.v 20)), (I64, (.v 21)), (I64, (.ki (0)))])
  (.item (.need (.op1 .not (.op2 .eq (.v 23) (.ki (0)))))
  (.item (.need (.op2 .le (.ki (0)) (.op2 .mn (.ki (20)) (.op1 (.wrap .i64) (.op2 .quo (.v 22) (.v 23))))))
  (.leaf [(I64, (.v 0)), (I64, (.v 1)), (I64, (.op2 .mn (.v 2) (.op2 .mx (.op2 .mx (.op2 (.shr .i64) (.v 2) (.op2 .mn (.ki (20)) (.op1 (.wrap .i64) (.op2 .quo (.v 22) (.v 23))))) (.v 24)) (.op1 (.wrap .i64) (.op2 .mul (.ki (2)) (.v 1)))))), (I64, (.op2 .mx (.v 3) (.op1 (.wrap .i64) (.op2 .quo (.op1 (.wrap .i64) (.op2 .mul (.ki (3)) (.v 2))) (.ki (4)))))), (I64, (.v 4)), (I64, (.v 5)), (I64, (.v 6)), (I64, (.v 7)), (I64, (.v 8)), (I64, (.v 9)), (I64, (.v 10)), ((.sl [(.int .i64), (.int .i64)]), (.v 11)), (I64, (.v 12)), (I64, (.v 13)), (I64, (.v 14)), (I64, (.v 15)), (I64, (.v 16)), (I64, (.v 17)), (I64, (.v 18)), (I64, (.v 19)), (I64, (.v 20)), (I64, (.v 21)), (I64, (.ki (0)))])))))))))))))
theorem c43 : compile Go.Proofs.Try.prog [s84, s85, s86] Go.Proofs.Try.f43 s43.params s43.results = some t43 := by kernel_rfl
def L43 : List (Nat × (List LV → List LV)) := [(84, F84), (85, F85), (86, F86)]
def M43 : List (Nat × (List LV → Prop)) := [(84, R84)]
theorem h43 : ∀ sg, sg ∈ [s84, s85, s86] → ConOk Go.Proofs.Try.prog (ap L43) (apR M43) sg := by
  intro sg h
  simp only [List.mem_cons, List.not_mem_nil, or_false] at h
  rcases h with rfl | rfl | rfl
  · exact k84.to rfl rfl
  · exact k85.to rfl rfl
  · exact k86.to rfl rfl
set_option maxRecDepth 100000 in
theorem k43 : Kon Go.Proofs.Try.prog s43 F43 R43 := by
  refine con_ok h43 (by kernel_rfl) Go.Proofs.Try.func43 (by kernel_rfl) c43 ?_
  intro ls _ hr
  simp only [t43, Tr.den, L43, M43, ap, apR, if_true, Nat.reduceEqDiff, if_false, List.map_cons, List.map_nil, E.den, O1.ev, ev_add, ev_sub, ev_mul, ev_quo, ev_rem, ev_mx, ev_mn, ev_shl, ev_shr, ev_bit, ev_lt, ev_le, ev_eq, ev_and, ev_or, ev_eqb, ev_cat, ev_rcons, ev_rd, SameL, Col.same]
  simp only [setE_lt, setE_hit, Nat.reduceLT, Nat.reduceLeDiff, Nat.reduceAdd, Nat.reduceSub]
  simp only [E84 (outOf ls), E85, E86]
  simp only [LV.Ii, LV.Bb, LV.Ll]
  simp only [F43]
  refine ⟨fun _ => trivial, fun _ => trivial, fun _ => trivial, fun _ => hr, ?_⟩
  by_cases hok : CcOk (outOf ls)
  case neg =>
    simp only [if_neg hok]
    rw [if_pos (by simp [tf_d])]
    simp only [out22, out22b, out22z, out22zb, zeroF, fset, newC, newG, implies_true, Nat.reduceEqDiff, if_true, if_false, setE_lt, setE_hit, Nat.reduceLT, Nat.reduceLeDiff, Nat.reduceAdd, Nat.reduceSub, outOf_z, outOf_s, LV.Ii, LV.Bb, LV.Ll, and_true, and_self, true_and]
  simp only [if_pos hok]
  by_cases hb : (TimeI (outOf ls 22).I ∧ TimeI (outOf ls 23).I) ∧ SizeI (outOf ls 24).I
  case neg =>
    have hc : ¬ ((tf (0 ≤ (outOf ls 22).I ∧ (outOf ls 22).I ≤ 1125899906842624) && tf (0 ≤ (outOf ls 23).I ∧ (outOf ls 23).I ≤ 1125899906842624) && tf (0 ≤ (outOf ls 24).I ∧ (outOf ls 24).I ≤ 1073741824)) = true) := by
      simp only [Bool.or_eq_true, Bool.and_eq_true, Bool.not_eq_true', tf_t, tf_f, Bool.or_eq_false_iff, Bool.and_eq_false_iff]; exact hb
    simp only [if_neg hc, if_neg hb]
    rw [if_pos (by simp [tf_d])]
    simp only [out22, out22b, out22z, out22zb, zeroF, fset, newC, newG, implies_true, Nat.reduceEqDiff, if_true, if_false, setE_lt, setE_hit, Nat.reduceLT, Nat.reduceLeDiff, Nat.reduceAdd, Nat.reduceSub, outOf_z, outOf_s, LV.Ii, LV.Bb, LV.Ll, and_true, and_self, true_and]
  have hc : (tf (0 ≤ (outOf ls 22).I ∧ (outOf ls 22).I ≤ 1125899906842624) && tf (0 ≤ (outOf ls 23).I ∧ (outOf ls 23).I ≤ 1125899906842624) && tf (0 ≤ (outOf ls 24).I ∧ (outOf ls 24).I ≤ 1073741824)) = true := by
    simp only [Bool.or_eq_true, Bool.and_eq_true, Bool.not_eq_true', tf_t, tf_f, Bool.or_eq_false_iff, Bool.and_eq_false_iff]; exact hb
  simp only [if_pos hc, if_pos hb]
  rw [if_neg (by simp [tf_d])]
  by_cases hq : (outOf ls 0).I = 3 ∨ (outOf ls 23).I = 0 ∨ (outOf ls 22).I ≤ (outOf ls 23).I
  · rw [if_pos (by first | (simp only [Bool.or_eq_true, Bool.and_eq_true, Bool.not_eq_true', tf_t, tf_f, Bool.or_eq_false_iff, Bool.and_eq_false_iff, not_true_eq_false, not_false_eq_true, false_or, or_false, true_or, or_true, true_and, and_true]; done) | (simp only [Bool.or_eq_true, Bool.and_eq_true, Bool.not_eq_true', tf_t, tf_f, Bool.or_eq_false_iff, Bool.and_eq_false_iff, not_true_eq_false, not_false_eq_true, false_or, or_false, true_or, or_true, true_and, and_true]; omega))]
    simp only [restC, if_pos hq]
    simp only [out22, out22b, out22z, out22zb, zeroF, fset, newC, newG, implies_true, Nat.reduceEqDiff, if_true, if_false, setE_lt, setE_hit, Nat.reduceLT, Nat.reduceLeDiff, Nat.reduceAdd, Nat.reduceSub, outOf_z, outOf_s, LV.Ii, LV.Bb, LV.Ll, and_true, and_self, true_and]
  rw [if_neg (by first | (simp only [Bool.or_eq_true, Bool.and_eq_true, Bool.not_eq_true', tf_t, tf_f, Bool.or_eq_false_iff, Bool.and_eq_false_iff, not_true_eq_false, not_false_eq_true, false_or, or_false, true_or, or_true, true_and, and_true]; done) | (simp only [Bool.or_eq_true, Bool.and_eq_true, Bool.not_eq_true', tf_t, tf_f, Bool.or_eq_false_iff, Bool.and_eq_false_iff, not_true_eq_false, not_false_eq_true, false_or, or_false, true_or, or_true, true_and, and_true]; omega))]
  simp only [restC, if_neg hq]
  obtain ⟨d1, d2, d3⟩ := div_facts hb.1.1 hb.1.2 (fun h => hq (.inr (.inl h)))
  obtain ⟨w1, w2, w3⟩ := rest_facts hok
  simp only [d1, w1, w2]
  refine ⟨by simp only [Bool.or_eq_true, Bool.and_eq_true, Bool.not_eq_true', tf_t, tf_f, Bool.or_eq_false_iff, Bool.and_eq_false_iff]; omega, (tf_t _).mpr (by omega), ?_⟩
  have hm : min (min 20 ((outOf ls 22).I / (outOf ls 23).I)).toNat IntKind.i64.bits = (min 20 ((outOf ls 22).I / (outOf ls 23).I)).toNat := by
    show min _ 64 = _
    omega
  rw [hm, Int.fdiv_eq_ediv_of_nonneg _ (Int.le_of_lt (Int.pow_pos (by omega)))]
  simp only [out22, out22b, out22z, out22zb, zeroF, fset, newC, newG, implies_true, Nat.reduceEqDiff, if_true, if_false, setE_lt, setE_hit, Nat.reduceLT, Nat.reduceLeDiff, Nat.reduceAdd, Nat.reduceSub, outOf_z, outOf_s, LV.Ii, LV.Bb, LV.Ll, and_true, and_self, true_and]
/-! tideway/tidewayref19.Rest -/
def s44 : Sig := ⟨44, 44, [.agg [I64, I64, I64, I64, I64, I64, I64, I64, I64, I64, I64, (.sl [(.int .i64), (.int .i64)]), I64, I64, I64, I64, I64, I64, I64, I64, I64, I64], .col I64, .col I64, .col I64], [.agg [I64, I64, I64, I64, I64, I64, I64, I64, I64, I64, I64, (.sl [(.int .i64), (.int .i64)]), I64, I64, I64, I64, I64, I64, I64, I64, I64, I64], .col I64]⟩
def t44 : Tr (List (Col × E)) :=
 (.item (.bind 87 [(.v 0), (.v 1), (.v 2), (.v 3), (.v 4), (.v 5), (.v 6), (.v 7), (.v 8), (.v 9), (.v 10), (.v 11), (.v 12), (.v 13), (.v 14), (.v 15), (.v 16), (.v 17), (.v 18), (.v 19), (.v 20), (.v 21)] 25 1)
 (.item (.pre (.kb true) 87 [(.v 0), (.v 1), (.v 2), (.v 3), (.v 4), (.v 5), (.v 6), (.v 7), (.v 8), (.v 9), (.v 10), (.v 11), (.v 12), (.v 13), (.v 14), (.v 15), (.v 16), (.v 17), (.v 18), (.v 19), (.v 20), (.v 21)])
 (.ite (.op1 .not (.op2 .eq (.v 25) (.ki (0))))
 (.leaf [(I64, (.ki (0))), (I64, (.ki (0))), (I64, (.ki (0))), (I64, (.ki (0))), (I64, (.ki (0))), (I64, (.ki (0))), (I64, (.ki (0))), (I64, (.ki (0))), (I64, (.ki (0))), (I64, (.ki (0))), (I64, (.ki (0))), ((.sl [(.int .i64), (.int .i64)]), .lnil), (I64, (.ki (0))), (I64, (.ki (0))), (I64, (.ki (0))), (I64, (.ki (0))), (I64, (.ki (0))), (I64, (.ki (0))), (I64, (.ki (0))), (I64, (.ki (0))), (I64, (.ki (0))), (I64, (.ki (0))), (I64, (.ki (230)))])
 (.item (.bind 88 [(.v 22)] 26 1)
 (.item (.bind 88 [(.v 23)] 27 1)
 (.item (.bind 66 [(.v 24)] 28 1)
 (.item (.pre (.kb true) 88 [(.v 22)])
 (.item (.pre (.op1 .not (.op1 .not (.v 26))) 88 [(.v 23)])
 (.item (.pre (.op1 .not (.op2 .or (.op1 .not (.v 26)) (.op1 .not (.v 27)))) 66 [(.v 24)])
 (.ite (.op2 .or (.op2 .or (.op1 .not (.v 26)) (.op1 .not (.v 27))) (.op1 .not (.v 28)))
  (.leaf [(I64, (.ki (0))), (I64, (.ki (0))), (I64, (.ki (0))), (I64, (.ki (0))), (I64, (.ki (0))), (I64, (.ki (0))), (I64, (.ki (0))), (I64, (.ki (0))), (I64, (.ki (0))), (I64, (.ki (0))), (I64, (.ki (0))), ((.sl [(.int .i64), (.int .i64)]), .lnil), (I64, (.ki (0))), (I64, (.ki (0))), (I64, (.ki (0))), (I64, (.ki (0))), (I64, (.ki (0))), (I64, (.ki (0))), (I64, (.ki (0))), (I64, (.ki (0))), (I64, (.ki (0))), (I64, (.ki (0))), (I64, (.ki (2)))])
  (.ite (.op2 .or (.op2 .or (.op2 .eq (.v 23) (.ki (0))) (.op2 .le (.v 22) (.v 23))) (.op2 .eq (.v 0) (.ki (3))))
   (.leaf [(I64, (.v 0)), (I64, (.v 1)), (I64, (.v 2)), (I64, (.v 3)), (I64, (.v 4)), (I64, (.v 5)), (I64, (.v 6)), (I64, (.v 7)), (I64, (.v 8)), (I64, (.v 9)), (I64, (.v 10)), ((.sl [(.int .i64), (.int .i64)]), (.v 11)), (I64, (.v 12)), (I64, (.v 13)), (I64, (.v 14)), (I64, (.v 15)), (I64, (.v 16)), (I64, (.v 17)), (I64, (.v 18)), (I64, (.v 19)), (I64, (.v 20)), (I64, (.v 21)), (I64, (.ki (0)))])
   (.loop 29 2 [(.ki (0)), (.v 2)]
    (.item (.need (.op1 .not (.op2 .eq (.v 23) (.ki (0)))))
    (.ite (.op2 .lt (.v 29) (.op2 .mn (.op1 (.wrap .i64) (.op2 .quo (.v 22) (.v 23))) (.ki (20))))
     (.next 0 [(.op1 (.wrap .i64) (.op2 .add (.v 29) (.ki (1)))), (.op1 (.wrap .i64) (.op2 .quo (.v 30) (.ki (2))))])
     (.leaf [(I64, (.v 0)), (I64, (.v 1)), (I64, (.op2 .mn (.op2 .mx (.op2 .mx (.v 30) (.v 24)) (.op1 (.wrap .i64) (.op2 .mul (.ki (2)) (.v 1)))) (.v 2))), (I64, (.op2 .mn (.op2 .mx (.v 3) (.op1 (.wrap .i64) (.op2 .quo (.op1 (.wrap .i64) (.op2 .mul (.v 2) (.ki (3)))) (.ki (4))))) (.ki (1073741824)))), (I64, (.v 4)), (I64, (.v 5)), (I64, (.v 6)), (I64, (.v 7)), (I64, (.v 8)), (I64, (.v 9)), (I64, (.v 10)), ((.sl [(.int .i64), (.int .i64)]), (.v 11)), (I64, (.v 12)), (I64, (.v 13)), (I64, (.v 14)), (I64, (.v 15)), (I64, (.v 16)), (I64, (.v 17)), (I64, (.v 18)), (I64, (.v 19)), (I64, (.v 20)), (I64, (.v 21)), (I64, (.ki (0)))])))))))))))))))
theorem c44 : compile Go.Proofs.Try.prog [s66, s87, s88] Go.Proofs.Try.f44 s44.params s44.results = some t44 := by kernel_rfl
def L44 : List (Nat × (List LV → List LV)) := [(66, F66), (87, F87), (88, F88)]
def M44 : List (Nat × (List LV → Prop)) := [(87, R87)]
theorem h44 : ∀ sg, sg ∈ [s66, s87, s88] → ConOk Go.Proofs.Try.prog (ap L44) (apR M44) sg := by
  intro sg h
  simp only [List.mem_cons, List.not_mem_nil, or_false] at h
  rcases h with rfl | rfl | rfl
  · exact k66.to rfl rfl
  · exact k87.to rfl rfl
  · exact k88.to rfl rfl
set_option maxRecDepth 100000 in
theorem k44 : Kon Go.Proofs.Try.prog s44 F44 R44 := by
  refine con_ok h44 (by kernel_rfl) Go.Proofs.Try.func44 (by kernel_rfl) c44 ?_
  intro ls _ hr
  simp only [t44, Tr.den, L44, M44, ap, apR, if_true, Nat.reduceEqDiff, if_false, List.map_cons, List.map_nil, E.den, O1.ev, ev_add, ev_sub, ev_mul, ev_quo, ev_rem, ev_mx, ev_mn, ev_shl, ev_shr, ev_bit, ev_lt, ev_le, ev_eq, ev_and, ev_or, ev_eqb, ev_cat, ev_rcons, ev_rd, SameL, Col.same, List.nil_append, nextAt]
  simp only [setE_lt, setE_hit, Nat.reduceLT, Nat.reduceLeDiff, Nat.reduceAdd, Nat.reduceSub]
  simp only [F87, E41, E88, E66]
  simp only [ccok22 (outOf ls)]
  simp only [LV.Ii, LV.Bb, LV.Ll]
  simp only [F44, F43]
  refine ⟨fun _ => R53_ok (outOf ls) hr, ?_⟩
  by_cases hok : CcOk (outOf ls)
  case neg =>
    simp only [if_neg hok]
    rw [if_pos (by simp [tf_d])]
    simp only [out22, out22b, out22z, out22zb, zeroF, fset, newC, newG, implies_true, Nat.reduceEqDiff, if_true, if_false, setE_lt, setE_hit, Nat.reduceLT, Nat.reduceLeDiff, Nat.reduceAdd, Nat.reduceSub, outOf_z, outOf_s, LV.Ii, LV.Bb, LV.Ll, and_true, and_self, true_and]
  simp only [if_pos hok]
  rw [if_neg (by simp [tf_d])]
  refine ⟨fun _ => trivial, fun _ => trivial, fun _ => trivial, ?_⟩
  by_cases hb : (TimeI (outOf ls 22).I ∧ TimeI (outOf ls 23).I) ∧ SizeI (outOf ls 24).I
  case neg =>
    simp only [if_neg hb]
    rw [if_pos (by simp only [TimeI, SizeI] at hb; first | (simp only [Bool.or_eq_true, Bool.and_eq_true, Bool.not_eq_true', tf_t, tf_f, Bool.or_eq_false_iff, Bool.and_eq_false_iff, not_true_eq_false, not_false_eq_true, false_or, or_false, true_or, or_true, true_and, and_true]; done) | (simp only [Bool.or_eq_true, Bool.and_eq_true, Bool.not_eq_true', tf_t, tf_f, Bool.or_eq_false_iff, Bool.and_eq_false_iff, not_true_eq_false, not_false_eq_true, false_or, or_false, true_or, or_true, true_and, and_true]; omega))]
    simp only [out22, out22b, out22z, out22zb, zeroF, fset, newC, newG, implies_true, Nat.reduceEqDiff, if_true, if_false, setE_lt, setE_hit, Nat.reduceLT, Nat.reduceLeDiff, Nat.reduceAdd, Nat.reduceSub, outOf_z, outOf_s, LV.Ii, LV.Bb, LV.Ll, and_true, and_self, true_and]
  simp only [if_pos hb]
  rw [if_neg (by simp only [TimeI, SizeI] at hb; first | (simp only [Bool.or_eq_true, Bool.and_eq_true, Bool.not_eq_true', tf_t, tf_f, Bool.or_eq_false_iff, Bool.and_eq_false_iff, not_true_eq_false, not_false_eq_true, false_or, or_false, true_or, or_true, true_and, and_true]; done) | (simp only [Bool.or_eq_true, Bool.and_eq_true, Bool.not_eq_true', tf_t, tf_f, Bool.or_eq_false_iff, Bool.and_eq_false_iff, not_true_eq_false, not_false_eq_true, false_or, or_false, true_or, or_true, true_and, and_true]; omega))]
  by_cases hq : (outOf ls 0).I = 3 ∨ (outOf ls 23).I = 0 ∨ (outOf ls 22).I ≤ (outOf ls 23).I
  · rw [if_pos (by first | (simp only [Bool.or_eq_true, Bool.and_eq_true, Bool.not_eq_true', tf_t, tf_f, Bool.or_eq_false_iff, Bool.and_eq_false_iff, not_true_eq_false, not_false_eq_true, false_or, or_false, true_or, or_true, true_and, and_true]; done) | (simp only [Bool.or_eq_true, Bool.and_eq_true, Bool.not_eq_true', tf_t, tf_f, Bool.or_eq_false_iff, Bool.and_eq_false_iff, not_true_eq_false, not_false_eq_true, false_or, or_false, true_or, or_true, true_and, and_true]; omega))]
    simp only [restC, if_pos hq]
    simp only [out22, out22b, out22z, out22zb, zeroF, fset, newC, newG, implies_true, Nat.reduceEqDiff, if_true, if_false, setE_lt, setE_hit, Nat.reduceLT, Nat.reduceLeDiff, Nat.reduceAdd, Nat.reduceSub, outOf_z, outOf_s, LV.Ii, LV.Bb, LV.Ll, and_true, and_self, true_and]
  rw [if_neg (by first | (simp only [Bool.or_eq_true, Bool.and_eq_true, Bool.not_eq_true', tf_t, tf_f, Bool.or_eq_false_iff, Bool.and_eq_false_iff, not_true_eq_false, not_false_eq_true, false_or, or_false, true_or, or_true, true_and, and_true]; done) | (simp only [Bool.or_eq_true, Bool.and_eq_true, Bool.not_eq_true', tf_t, tf_f, Bool.or_eq_false_iff, Bool.and_eq_false_iff, not_true_eq_false, not_false_eq_true, false_or, or_false, true_or, or_true, true_and, and_true]; omega))]
  simp only [restC, if_neg hq]
  obtain ⟨d1, d2, d3⟩ := div_facts hb.1.1 hb.1.2 (fun h => hq (.inr (.inl h)))
  obtain ⟨w1, w2, w3⟩ := rest_facts hok
  have hcb := cc_bounds hok
  simp only [d1, w1, w3]
  generalize (outOf ls 22).I / (outOf ls 23).I = dv at *
  obtain ⟨n, hn⟩ : ∃ n : Nat, min 20 dv = (n : Int) := ⟨(min 20 dv).toNat, by omega⟩
  have hn' : min dv 20 = (n : Int) := by omega
  simp only [hn, hn', Int.toNat_natCast]
  obtain ⟨c, hcc⟩ : ∃ c : Nat, (outOf ls 2).I = (c : Int) := ⟨(outOf ls 2).I.toNat, by omega⟩
  have hdiv : ∀ i : Nat, (c : Int) / 2 ^ i = ((c / 2 ^ i : Nat) : Int) := fun i => by rw [Int.natCast_ediv]; simp
  simp only [hcc] at hcb ⊢
  simp only [hdiv]
  refine loop_ok (fun xs => ∃ (i : Nat) (y : LV), xs = [.i i, y] ∧ y.I = ((c / 2 ^ i : Nat) : Int) ∧ i ≤ n) (fun xs => n - (outOf xs 0).I.toNat) ?_ ⟨0, _, rfl, by rw [hcc]; simp, by omega⟩
  rintro xs ih ⟨i, y, rfl, hy, hi⟩ hih
  simp only [outOf_z, outOf_s, LV.Ii]
  have hle : c / 2 ^ i ≤ c := Nat.div_le_self _ _
  have hz0 := Int.natCast_nonneg (c / 2 ^ i)
  have hz1 := Int.natCast_nonneg (c / 2 ^ (i + 1))
  have hhalf : c / 2 ^ i / 2 = c / 2 ^ (i + 1) := by rw [Nat.div_div_eq_div_mul, Nat.pow_succ]
  refine ⟨by simp only [Bool.or_eq_true, Bool.and_eq_true, Bool.not_eq_true', tf_t, tf_f, Bool.or_eq_false_iff, Bool.and_eq_false_iff]; omega, ?_⟩
  by_cases hlt : (i : Int) < n
  · rw [if_pos ((tf_t _).mpr hlt)]
    have e1 : IntKind.i64.wrap ((i : Int) + 1) = ((i + 1 : Nat) : Int) := by rw [wrap_i64 (by omega) (by omega)]; omega
    have e2 : IntKind.i64.wrap (y.I.tdiv 2) = ((c / 2 ^ (i + 1) : Nat) : Int) := by
      rw [hy, ← hhalf]
      generalize c / 2 ^ i = q at *
      rw [Int.tdiv_eq_ediv_of_nonneg (by omega), wrap_i64 (by omega) (by omega)]
      omega
    rw [e1, e2]
    exact hih _ ⟨i + 1, .i ((c / 2 ^ (i + 1) : Nat) : Int), rfl, rfl, by omega⟩ (by simp only [outOf_z, LV.Ii]; omega)
  · rw [if_neg (fun h => hlt ((tf_t _).mp h))]
    have : i = n := by omega
    subst this
    simp only [hy]
    have hz : ((c / 2 ^ i : Nat) : Int) ≤ c := by omega
    generalize ((c / 2 ^ i : Nat) : Int) = z at *
    simp only [out22, out22b, out22z, out22zb, zeroF, fset, newC, newG, implies_true, Nat.reduceEqDiff, if_true, if_false, setE_lt, setE_hit, Nat.reduceLT, Nat.reduceLeDiff, Nat.reduceAdd, Nat.reduceSub, outOf_z, outOf_s, LV.Ii, LV.Bb, LV.Ll, and_true, and_self, true_and]
    refine ⟨?_, ?_⟩
    · omega
    · omega
def F45 (ls : List LV) : List LV := if CcOk (outOf ls) then if SizeI (outOf ls 22).I then l22 (fset (outOf ls) 2 (.i (max (outOf ls 1).I (outOf ls 22).I))) ++ [.i 0] else z22 ++ [.i 2] else z22 ++ [.i 230]
abbrev F46 := F45
abbrev R45 := R53
abbrev R46 := R53
/-! tideway/cc.Limit -/
def s45 : Sig := ⟨45, 45, [.agg [I64, I64, I64, I64, I64, I64, I64, I64, I64, I64, I64, (.sl [(.int .i64), (.int .i64)]), I64, I64, I64, I64, I64, I64, I64, I64, I64, I64], .col I64], [.agg [I64, I64, I64, I64, I64, I64, I64, I64, I64, I64, I64, (.sl [(.int .i64), (.int .i64)]), I64, I64, I64, I64, I64, I64, I64, I64, I64, I64], .col I64]⟩
def t45 : Tr (List (Col × E)) :=
 (.item (.bind 86 [(.v 22)] 23 1)
 (.item (.bind 84 [(.v 0), (.v 1), (.v 2), (.v 3), (.v 4), (.v 5), (.v 6), (.v 7), (.v 8), (.v 9), (.v 10), (.v 11), (.v 12), (.v 13), (.v 14), (.v 15), (.v 16), (.v 17), (.v 18), (.v 19), (.v 20), (.v 21), (.v 23)] 24 1)
 (.item (.pre (.kb true) 86 [(.v 22)])
 (.item (.pre (.kb true) 84 [(.v 0), (.v 1), (.v 2), (.v 3), (.v 4), (.v 5), (.v 6), (.v 7), (.v 8), (.v 9), (.v 10), (.v 11), (.v 12), (.v 13), (.v 14), (.v 15), (.v 16), (.v 17), (.v 18), (.v 19), (.v 20), (.v 21), (.v 23)])
 (.ite (.op1 .not (.op2 .eq (.v 24) (.ki (0))))
 (.leaf [(I64, (.ki (0))), (I64, (.ki (0))), (I64, (.ki (0))), (I64, (.ki (0))), (I64, (.ki (0))), (I64, (.ki (0))), (I64, (.ki (0))), (I64, (.ki (0))), (I64, (.ki (0))), (I64, (.ki (0))), (I64, (.ki (0))), ((.sl [(.int .i64), (.int .i64)]), .lnil), (I64, (.ki (0))), (I64, (.ki (0))), (I64, (.ki (0))), (I64, (.ki (0))), (I64, (.ki (0))), (I64, (.ki (0))), (I64, (.ki (0))), (I64, (.ki (0))), (I64, (.ki (0))), (I64, (.ki (0))), (I64, (.v 24))])
 (.leaf [(I64, (.v 0)), (I64, (.v 1)), (I64, (.op2 .mx (.v 1) (.v 22))), (I64, (.v 3)), (I64, (.v 4)), (I64, (.v 5)), (I64, (.v 6)), (I64, (.v 7)), (I64, (.v 8)), (I64, (.v 9)), (I64, (.v 10)), ((.sl [(.int .i64), (.int .i64)]), (.v 11)), (I64, (.v 12)), (I64, (.v 13)), (I64, (.v 14)), (I64, (.v 15)), (I64, (.v 16)), (I64, (.v 17)), (I64, (.v 18)), (I64, (.v 19)), (I64, (.v 20)), (I64, (.v 21)), (I64, (.ki (0)))]))))))
theorem c45 : compile Go.Proofs.Try.prog [s84, s86] Go.Proofs.Try.f45 s45.params s45.results = some t45 := by kernel_rfl
def L45 : List (Nat × (List LV → List LV)) := [(84, F84), (86, F86)]
def M45 : List (Nat × (List LV → Prop)) := [(84, R84)]
theorem h45 : ∀ sg, sg ∈ [s84, s86] → ConOk Go.Proofs.Try.prog (ap L45) (apR M45) sg := by
  intro sg h
  simp only [List.mem_cons, List.not_mem_nil, or_false] at h
  rcases h with rfl | rfl
  · exact k84.to rfl rfl
  · exact k86.to rfl rfl
set_option maxRecDepth 100000 in
theorem k45 : Kon Go.Proofs.Try.prog s45 F45 R45 := by
  refine con_ok h45 (by kernel_rfl) Go.Proofs.Try.func45 (by kernel_rfl) c45 ?_
  intro ls _ hr
  simp only [t45, Tr.den, L45, M45, ap, apR, if_true, Nat.reduceEqDiff, if_false, List.map_cons, List.map_nil, E.den, O1.ev, ev_add, ev_sub, ev_mul, ev_quo, ev_rem, ev_mx, ev_mn, ev_shl, ev_shr, ev_bit, ev_lt, ev_le, ev_eq, ev_and, ev_or, ev_eqb, ev_cat, ev_rcons, ev_rd, SameL, Col.same]
  simp only [setE_lt, setE_hit, Nat.reduceLT, Nat.reduceLeDiff, Nat.reduceAdd, Nat.reduceSub]
  simp only [E84 (outOf ls), E86]
  simp only [LV.Ii, LV.Bb, LV.Ll]
  simp only [F45]
  refine ⟨fun _ => trivial, fun _ => hr, ?_⟩
  by_cases hok : CcOk (outOf ls)
  case neg =>
    simp only [if_neg hok]
    rw [if_pos (by simp [tf_d])]
    simp only [out22, out22b, out22z, out22zb, zeroF, fset, newC, newG, implies_true, Nat.reduceEqDiff, if_true, if_false, setE_lt, setE_hit, Nat.reduceLT, Nat.reduceLeDiff, Nat.reduceAdd, Nat.reduceSub, outOf_z, outOf_s, LV.Ii, LV.Bb, LV.Ll, and_true, and_self, true_and]
  simp only [if_pos hok]
  by_cases hb : SizeI (outOf ls 22).I
  case neg =>
    have hc : ¬ (tf (0 ≤ (outOf ls 22).I ∧ (outOf ls 22).I ≤ 1073741824) = true) := by rw [tf_t]; exact hb
    simp only [if_neg hc, if_neg hb]
    rw [if_pos (by simp [tf_d])]
    simp only [out22, out22b, out22z, out22zb, zeroF, fset, newC, newG, implies_true, Nat.reduceEqDiff, if_true, if_false, setE_lt, setE_hit, Nat.reduceLT, Nat.reduceLeDiff, Nat.reduceAdd, Nat.reduceSub, outOf_z, outOf_s, LV.Ii, LV.Bb, LV.Ll, and_true, and_self, true_and]
  have hc : tf (0 ≤ (outOf ls 22).I ∧ (outOf ls 22).I ≤ 1073741824) = true := by rw [tf_t]; exact hb
  simp only [if_pos hc, if_pos hb]
  rw [if_neg (by simp [tf_d])]
  simp only [out22, out22b, out22z, out22zb, zeroF, fset, newC, newG, implies_true, Nat.reduceEqDiff, if_true, if_false, setE_lt, setE_hit, Nat.reduceLT, Nat.reduceLeDiff, Nat.reduceAdd, Nat.reduceSub, outOf_z, outOf_s, LV.Ii, LV.Bb, LV.Ll, and_true, and_self, true_and]
/-! tideway/tidewayref19.Limit -/
def s46 : Sig := ⟨46, 46, [.agg [I64, I64, I64, I64, I64, I64, I64, I64, I64, I64, I64, (.sl [(.int .i64), (.int .i64)]), I64, I64, I64, I64, I64, I64, I64, I64, I64, I64], .col I64], [.agg [I64, I64, I64, I64, I64, I64, I64, I64, I64, I64, I64, (.sl [(.int .i64), (.int .i64)]), I64, I64, I64, I64, I64, I64, I64, I64, I64, I64], .col I64]⟩
def t46 : Tr (List (Col × E)) :=
 (.item (.bind 87 [(.v 0), (.v 1), (.v 2), (.v 3), (.v 4), (.v 5), (.v 6), (.v 7), (.v 8), (.v 9), (.v 10), (.v 11), (.v 12), (.v 13), (.v 14), (.v 15), (.v 16), (.v 17), (.v 18), (.v 19), (.v 20), (.v 21)] 23 1)
 (.item (.pre (.kb true) 87 [(.v 0), (.v 1), (.v 2), (.v 3), (.v 4), (.v 5), (.v 6), (.v 7), (.v 8), (.v 9), (.v 10), (.v 11), (.v 12), (.v 13), (.v 14), (.v 15), (.v 16), (.v 17), (.v 18), (.v 19), (.v 20), (.v 21)])
 (.ite (.op1 .not (.op2 .eq (.v 23) (.ki (0))))
 (.leaf [(I64, (.ki (0))), (I64, (.ki (0))), (I64, (.ki (0))), (I64, (.ki (0))), (I64, (.ki (0))), (I64, (.ki (0))), (I64, (.ki (0))), (I64, (.ki (0))), (I64, (.ki (0))), (I64, (.ki (0))), (I64, (.ki (0))), ((.sl [(.int .i64), (.int .i64)]), .lnil), (I64, (.ki (0))), (I64, (.ki (0))), (I64, (.ki (0))), (I64, (.ki (0))), (I64, (.ki (0))), (I64, (.ki (0))), (I64, (.ki (0))), (I64, (.ki (0))), (I64, (.ki (0))), (I64, (.ki (0))), (I64, (.ki (230)))])
 (.item (.bind 66 [(.v 22)] 24 1)
 (.item (.pre (.kb true) 66 [(.v 22)])
 (.ite (.op1 .not (.v 24))
  (.leaf [(I64, (.ki (0))), (I64, (.ki (0))), (I64, (.ki (0))), (I64, (.ki (0))), (I64, (.ki (0))), (I64, (.ki (0))), (I64, (.ki (0))), (I64, (.ki (0))), (I64, (.ki (0))), (I64, (.ki (0))), (I64, (.ki (0))), ((.sl [(.int .i64), (.int .i64)]), .lnil), (I64, (.ki (0))), (I64, (.ki (0))), (I64, (.ki (0))), (I64, (.ki (0))), (I64, (.ki (0))), (I64, (.ki (0))), (I64, (.ki (0))), (I64, (.ki (0))), (I64, (.ki (0))), (I64, (.ki (0))), (I64, (.ki (2)))])
  (.leaf [(I64, (.v 0)), (I64, (.v 1)), (I64, (.op2 .mx (.v 22) (.v 1))), (I64, (.v 3)), (I64, (.v 4)), (I64, (.v 5)), (I64, (.v 6)), (I64, (.v 7)), (I64, (.v 8)), (I64, (.v 9)), (I64, (.v 10)), ((.sl [(.int .i64), (.int .i64)]), (.v 11)), (I64, (.v 12)), (I64, (.v 13)), (I64, (.v 14)), (I64, (.v 15)), (I64, (.v 16)), (I64, (.v 17)), (I64, (.v 18)), (I64, (.v 19)), (I64, (.v 20)), (I64, (.v 21)), (I64, (.ki (0)))])))))))
theorem c46 : compile Go.Proofs.Try.prog [s66, s87] Go.Proofs.Try.f46 s46.params s46.results = some t46 := by kernel_rfl
def L46 : List (Nat × (List LV → List LV)) := [(66, F66), (87, F87)]
def M46 : List (Nat × (List LV → Prop)) := [(87, R87)]
theorem h46 : ∀ sg, sg ∈ [s66, s87] → ConOk Go.Proofs.Try.prog (ap L46) (apR M46) sg := by
  intro sg h
  simp only [List.mem_cons, List.not_mem_nil, or_false] at h
  rcases h with rfl | rfl
  · exact k66.to rfl rfl
  · exact k87.to rfl rfl
set_option maxRecDepth 100000 in
theorem k46 : Kon Go.Proofs.Try.prog s46 F46 R46 := by
  refine con_ok h46 (by kernel_rfl) Go.Proofs.Try.func46 (by kernel_rfl) c46 ?_
  intro ls _ hr
  simp only [t46, Tr.den, L46, M46, ap, apR, if_true, Nat.reduceEqDiff, if_false, List.map_cons, List.map_nil, E.den, O1.ev, ev_add, ev_sub, ev_mul, ev_quo, ev_rem, ev_mx, ev_mn, ev_shl, ev_shr, ev_bit, ev_lt, ev_le, ev_eq, ev_and, ev_or, ev_eqb, ev_cat, ev_rcons, ev_rd, SameL, Col.same]
  simp only [setE_lt, setE_hit, Nat.reduceLT, Nat.reduceLeDiff, Nat.reduceAdd, Nat.reduceSub]
  simp only [F87, E41, E66']
  simp only [ccok22 (outOf ls)]
  simp only [LV.Ii, LV.Bb, LV.Ll]
  simp only [F46, F45]
  refine ⟨fun _ => R53_ok (outOf ls) hr, ?_⟩
  by_cases hok : CcOk (outOf ls)
  case neg =>
    simp only [if_neg hok]
    rw [if_pos (by simp [tf_d])]
    simp only [out22, out22b, out22z, out22zb, zeroF, fset, newC, newG, implies_true, Nat.reduceEqDiff, if_true, if_false, setE_lt, setE_hit, Nat.reduceLT, Nat.reduceLeDiff, Nat.reduceAdd, Nat.reduceSub, outOf_z, outOf_s, LV.Ii, LV.Bb, LV.Ll, and_true, and_self, true_and]
  simp only [if_pos hok]
  rw [if_neg (by simp [tf_d])]
  refine ⟨fun _ => trivial, ?_⟩
  by_cases hb : SizeI (outOf ls 22).I
  case neg =>
    rw [if_pos (by simp only [Bool.or_eq_true, Bool.and_eq_true, Bool.not_eq_true', tf_t, tf_f, Bool.or_eq_false_iff, Bool.and_eq_false_iff]; exact hb)]
    simp only [if_neg hb]
    simp only [out22, out22b, out22z, out22zb, zeroF, fset, newC, newG, implies_true, Nat.reduceEqDiff, if_true, if_false, setE_lt, setE_hit, Nat.reduceLT, Nat.reduceLeDiff, Nat.reduceAdd, Nat.reduceSub, outOf_z, outOf_s, LV.Ii, LV.Bb, LV.Ll, and_true, and_self, true_and]
  rw [if_neg (by simp only [Bool.or_eq_true, Bool.and_eq_true, Bool.not_eq_true', tf_t, tf_f, Bool.or_eq_false_iff, Bool.and_eq_false_iff]; exact fun h => h hb)]
  simp only [if_pos hb, Int.max_comm (outOf ls 22).I]
  simp only [out22, out22b, out22z, out22zb, zeroF, fset, newC, newG, implies_true, Nat.reduceEqDiff, if_true, if_false, setE_lt, setE_hit, Nat.reduceLT, Nat.reduceLeDiff, Nat.reduceAdd, Nat.reduceSub, outOf_z, outOf_s, LV.Ii, LV.Bb, LV.Ll, and_true, and_self, true_and]
def tI (srtt : Int) : Int := if min srtt 1125899906842624 < 1 then 1000 else min srtt 1125899906842624
def bbrR (f : Nat → LV) : Int := IntKind.i64.wrap ((IntKind.i64.wrap (gainI (f 10).I (f 18).I * bwI (f 11).L)).tdiv 100)
def paceR (f : Nat → LV) (srtt : Int) : Int :=
  if (f 0).I = 3 then (if bbrR f = 0 then mulDiv (f 2).I 289000000 (100 * tI srtt) else bbrR f)
  else mulDiv (f 2).I (if (f 2).I < (f 3).I then 200000000 else 120000000) (100 * tI srtt)
def F47 (ls : List LV) : List LV := [.i (if CcOk (outOf ls) then min 1099511627776 (max (max 1 (outOf ls 23).I) (paceR (outOf ls) (outOf ls 22).I)) else 0)]
abbrev F48 := F47
abbrev R47 := R53
abbrev R48 := R53
theorem tI_range (s : Int) : 1 ≤ tI s ∧ tI s ≤ 1125899906842624 := by unfold tI; split <;> omega
theorem E89 (ρ : Nat → LV) (h : BbrOk ρ) : (outOf (F89 [ρ 0, ρ 1, ρ 2, ρ 3, ρ 4, ρ 5, ρ 6, ρ 7, ρ 8, ρ 9, ρ 10, ρ 11, ρ 12, ρ 13, ρ 14, ρ 15, ρ 16, ρ 17, ρ 18, ρ 19, ρ 20, ρ 21]) 0).I = gainI (ρ 10).I (ρ 18).I := by
  simp only [F89, outOf_z, LV.Ii]
  rw [if_pos ((bok22 ρ).2 h)]
  rfl
theorem E56 (ρ : Nat → LV) (h : BbrOk ρ) : (outOf (F56 [ρ 0, ρ 1, ρ 2, ρ 3, ρ 4, ρ 5, ρ 6, ρ 7, ρ 8, ρ 9, ρ 10, ρ 11, ρ 12, ρ 13, ρ 14, ρ 15, ρ 16, ρ 17, ρ 18, ρ 19, ρ 20, ρ 21]) 0).I = bwI (ρ 11).L := by
  simp only [F56, outOf_z, LV.Ii]
  rw [if_pos ((bok22 ρ).2 h)]
  rfl
/-! tideway/cc.Pace -/
def s47 : Sig := ⟨47, 47, [.agg [I64, I64, I64, I64, I64, I64, I64, I64, I64, I64, I64, (.sl [(.int .i64), (.int .i64)]), I64, I64, I64, I64, I64, I64, I64, I64, I64, I64], .col I64, .col I64], [.col I64]⟩
def t47 : Tr (List (Col × E)) :=
 (.item (.bind 41 [(.v 0), (.v 1), (.v 2), (.v 3), (.v 4), (.v 5), (.v 6), (.v 7), (.v 8), (.v 9), (.v 10), (.v 11), (.v 12), (.v 13), (.v 14), (.v 15), (.v 16), (.v 17), (.v 18), (.v 19), (.v 20), (.v 21)] 24 1)
 (.item (.pre (.kb true) 41 [(.v 0), (.v 1), (.v 2), (.v 3), (.v 4), (.v 5), (.v 6), (.v 7), (.v 8), (.v 9), (.v 10), (.v 11), (.v 12), (.v 13), (.v 14), (.v 15), (.v 16), (.v 17), (.v 18), (.v 19), (.v 20), (.v 21)])
 (.ite (.op1 .not (.op2 .eq (.v 24) (.ki (0))))
 (.leaf [(I64, (.ki (0)))])
 (.ite (.op2 .eq (.v 0) (.ki (3)))
  (.item (.bind 89 [(.v 0), (.v 1), (.v 2), (.v 3), (.v 4), (.v 5), (.v 6), (.v 7), (.v 8), (.v 9), (.v 10), (.v 11), (.v 12), (.v 13), (.v 14), (.v 15), (.v 16), (.v 17), (.v 18), (.v 19), (.v 20), (.v 21)] 25 1)
  (.item (.bind 56 [(.v 0), (.v 1), (.v 2), (.v 3), (.v 4), (.v 5), (.v 6), (.v 7), (.v 8), (.v 9), (.v 10), (.v 11), (.v 12), (.v 13), (.v 14), (.v 15), (.v 16), (.v 17), (.v 18), (.v 19), (.v 20), (.v 21)] 26 1)
  (.item (.pre (.kb true) 89 [(.v 0), (.v 1), (.v 2), (.v 3), (.v 4), (.v 5), (.v 6), (.v 7), (.v 8), (.v 9), (.v 10), (.v 11), (.v 12), (.v 13), (.v 14), (.v 15), (.v 16), (.v 17), (.v 18), (.v 19), (.v 20), (.v 21)])
  (.item (.pre (.kb true) 56 [(.v 0), (.v 1), (.v 2), (.v 3), (.v 4), (.v 5), (.v 6), (.v 7), (.v 8), (.v 9), (.v 10), (.v 11), (.v 12), (.v 13), (.v 14), (.v 15), (.v 16), (.v 17), (.v 18), (.v 19), (.v 20), (.v 21)])
  (.ite (.op2 .eq (.op1 (.wrap .i64) (.op2 .quo (.op1 (.wrap .i64) (.op2 .mul (.v 25) (.v 26))) (.ki (100)))) (.ki (0)))
   (.item (.bind 90 [(.v 2), (.op1 (.wrap .i64) (.op2 .mul (.ki (289)) (.ki (1000000)))), (.op1 (.wrap .i64) (.op2 .mul (.ki (100)) (.iteI (.op2 .lt (.op2 .mn (.v 22) (.ki (1125899906842624))) (.ki (1))) (.ki (1000)) (.op2 .mn (.v 22) (.ki (1125899906842624))))))] 27 2)
   (.item (.pre (.kb true) 90 [(.v 2), (.op1 (.wrap .i64) (.op2 .mul (.ki (289)) (.ki (1000000)))), (.op1 (.wrap .i64) (.op2 .mul (.ki (100)) (.iteI (.op2 .lt (.op2 .mn (.v 22) (.ki (1125899906842624))) (.ki (1))) (.ki (1000)) (.op2 .mn (.v 22) (.ki (1125899906842624))))))])
   (.leaf [(I64, (.op2 .mn (.ki (1099511627776)) (.op2 .mx (.op2 .mx (.ki (1)) (.v 23)) (.v 27))))])))
   (.leaf [(I64, (.op2 .mn (.ki (1099511627776)) (.op2 .mx (.op2 .mx (.ki (1)) (.v 23)) (.op1 (.wrap .i64) (.op2 .quo (.op1 (.wrap .i64) (.op2 .mul (.v 25) (.v 26))) (.ki (100)))))))]))))))
  (.ite (.op2 .eq (.ki (0)) (.ki (0)))
   (.item (.bind 90 [(.v 2), (.op1 (.wrap .i64) (.op2 .mul (.iteI (.op2 .lt (.v 2) (.v 3)) (.ki (200)) (.ki (120))) (.ki (1000000)))), (.op1 (.wrap .i64) (.op2 .mul (.ki (100)) (.iteI (.op2 .lt (.op2 .mn (.v 22) (.ki (1125899906842624))) (.ki (1))) (.ki (1000)) (.op2 .mn (.v 22) (.ki (1125899906842624))))))] 29 2)
   (.item (.pre (.kb true) 90 [(.v 2), (.op1 (.wrap .i64) (.op2 .mul (.iteI (.op2 .lt (.v 2) (.v 3)) (.ki (200)) (.ki (120))) (.ki (1000000)))), (.op1 (.wrap .i64) (.op2 .mul (.ki (100)) (.iteI (.op2 .lt (.op2 .mn (.v 22) (.ki (1125899906842624))) (.ki (1))) (.ki (1000)) (.op2 .mn (.v 22) (.ki (1125899906842624))))))])
   (.leaf [(I64, (.op2 .mn (.ki (1099511627776)) (.op2 .mx (.op2 .mx (.ki (1)) (.v 23)) (.v 29))))])))
   (.leaf [(I64, (.op2 .mn (.ki (1099511627776)) (.op2 .mx (.op2 .mx (.ki (1)) (.v 23)) (.ki (0)))))]))))))
theorem c47 : compile Go.Proofs.Try.prog [s41, s56, s89, s90] Go.Proofs.Try.f47 s47.params s47.results = some t47 := by kernel_rfl
def L47 : List (Nat × (List LV → List LV)) := [(41, F41), (56, F56), (89, F89), (90, F90)]
def M47 : List (Nat × (List LV → Prop)) := [(41, R41), (56, R56), (89, R89), (90, R90)]
theorem h47 : ∀ sg, sg ∈ [s41, s56, s89, s90] → ConOk Go.Proofs.Try.prog (ap L47) (apR M47) sg := by
  intro sg h
  simp only [List.mem_cons, List.not_mem_nil, or_false] at h
  rcases h with rfl | rfl | rfl | rfl
  · exact k41.to rfl rfl
  · exact k56.to rfl rfl
  · exact k89.to rfl rfl
  · exact k90.to rfl rfl
set_option maxRecDepth 100000 in
theorem k47 : Kon Go.Proofs.Try.prog s47 F47 R47 := by
  refine con_ok h47 (by kernel_rfl) Go.Proofs.Try.func47 (by kernel_rfl) c47 ?_
  intro ls _ hr
  simp only [t47, Tr.den, L47, M47, ap, apR, if_true, Nat.reduceEqDiff, if_false, List.map_cons, List.map_nil, E.den, O1.ev, ev_add, ev_sub, ev_mul, ev_quo, ev_rem, ev_mx, ev_mn, ev_shl, ev_shr, ev_bit, ev_lt, ev_le, ev_eq, ev_and, ev_or, ev_eqb, ev_cat, ev_rcons, ev_rd, SameL, Col.same]
  simp only [setE_lt, setE_hit, Nat.reduceLT, Nat.reduceLeDiff, Nat.reduceAdd, Nat.reduceSub]
  simp only [F87, F91, F92, F68, R68, E41]
  simp only [ccok22 (outOf ls)]
  simp only [LV.Ii, LV.Bb, LV.Ll]
  simp only [F48, F47, outOf_z, LV.Ii]
  refine ⟨fun _ => R53_ok (outOf ls) hr, ?_⟩
  by_cases hok : CcOk (outOf ls)
  case neg =>
    rw [if_neg hok, if_pos (by simp [tf_d]), if_neg hok]
    exact ⟨rfl, trivial⟩
  rw [if_pos hok, if_neg (by simp [tf_d]), if_pos hok]
  have hcb := cc_bounds hok
  have ht := tI_range (outOf ls 22).I
  have et : IntKind.i64.wrap (100 * if tf (min (outOf ls 22).I 1125899906842624 < 1) = true then 1000 else min (outOf ls 22).I 1125899906842624) = 100 * tI (outOf ls 22).I := by
    have e : (if tf (min (outOf ls 22).I 1125899906842624 < 1) = true then 1000 else min (outOf ls 22).I 1125899906842624) = tI (outOf ls 22).I := by
      unfold tI
      simp only [tf_t]
    rw [e, wrap_i64 (by omega) (by omega)]
  have e289 : IntKind.i64.wrap (289 * 1000000) = 289000000 := by decide
  have eg : IntKind.i64.wrap ((if tf ((outOf ls 2).I < (outOf ls 3).I) = true then 200 else 120) * 1000000) = (if (outOf ls 2).I < (outOf ls 3).I then 200000000 else 120000000) := by
    simp only [tf_t]
    split <;> decide
  simp only [et, e289, eg, paceR]
  generalize tI (outOf ls 22).I = t at *
  by_cases h3 : (outOf ls 0).I = 3
  · rw [if_pos ((tf_t _).mpr h3)]
    have hb := (cc3 (by omega) (by omega)).1 hok
    simp only [if_pos h3, E89 (outOf ls) hb, E56 (outOf ls) hb]
    refine ⟨fun _ => R53_ok (outOf ls) hr, fun _ => R53_ok (outOf ls) hr, ?_⟩
    have eb : IntKind.i64.wrap ((IntKind.i64.wrap (gainI (outOf ls 10).I (outOf ls 18).I * bwI (outOf ls 11).L)).tdiv 100) = bbrR (outOf ls) := rfl
    simp only [eb]
    by_cases hz : bbrR (outOf ls) = 0
    · rw [if_pos ((tf_t _).mpr hz), if_pos hz]
      refine ⟨fun _ => R90_ok _ _ _ (by omega) (by simp only [LV.Ii]; omega) (by simp only [LV.Ii]; omega), ?_⟩
      rw [E90 _ _ _ (by omega) (by simp only [LV.Ii]; omega) (by simp only [LV.Ii]; omega)]
      simp only [LV.Ii, and_true]
    · rw [if_neg (fun h => hz ((tf_t _).mp h)), if_neg hz]
      simp only [and_true]
  · rw [if_neg (fun h => h3 ((tf_t _).mp h)), if_pos (by simp [tf_d])]
    simp only [if_neg h3]
    refine ⟨fun _ => R90_ok _ _ _ (by omega) (by simp only [LV.Ii]; split <;> omega) (by simp only [LV.Ii]; omega), ?_⟩
    rw [E90 _ _ _ (by omega) (by simp only [LV.Ii]; split <;> omega) (by simp only [LV.Ii]; omega)]
    simp only [LV.Ii, and_true]
/-! tideway/tidewayref19.Pace -/
def s48 : Sig := ⟨48, 48, [.agg [I64, I64, I64, I64, I64, I64, I64, I64, I64, I64, I64, (.sl [(.int .i64), (.int .i64)]), I64, I64, I64, I64, I64, I64, I64, I64, I64, I64], .col I64, .col I64], [.col I64]⟩
def t48 : Tr (List (Col × E)) :=
 (.item (.bind 87 [(.v 0), (.v 1), (.v 2), (.v 3), (.v 4), (.v 5), (.v 6), (.v 7), (.v 8), (.v 9), (.v 10), (.v 11), (.v 12), (.v 13), (.v 14), (.v 15), (.v 16), (.v 17), (.v 18), (.v 19), (.v 20), (.v 21)] 24 1)
 (.item (.pre (.kb true) 87 [(.v 0), (.v 1), (.v 2), (.v 3), (.v 4), (.v 5), (.v 6), (.v 7), (.v 8), (.v 9), (.v 10), (.v 11), (.v 12), (.v 13), (.v 14), (.v 15), (.v 16), (.v 17), (.v 18), (.v 19), (.v 20), (.v 21)])
 (.ite (.op1 .not (.op2 .eq (.v 24) (.ki (0))))
 (.leaf [(I64, (.ki (0)))])
 (.ite (.op2 .eq (.v 0) (.ki (3)))
  (.item (.bind 91 [(.v 0), (.v 1), (.v 2), (.v 3), (.v 4), (.v 5), (.v 6), (.v 7), (.v 8), (.v 9), (.v 10), (.v 11), (.v 12), (.v 13), (.v 14), (.v 15), (.v 16), (.v 17), (.v 18), (.v 19), (.v 20), (.v 21)] 25 1)
  (.item (.bind 92 [(.v 0), (.v 1), (.v 2), (.v 3), (.v 4), (.v 5), (.v 6), (.v 7), (.v 8), (.v 9), (.v 10), (.v 11), (.v 12), (.v 13), (.v 14), (.v 15), (.v 16), (.v 17), (.v 18), (.v 19), (.v 20), (.v 21)] 26 1)
  (.item (.pre (.kb true) 91 [(.v 0), (.v 1), (.v 2), (.v 3), (.v 4), (.v 5), (.v 6), (.v 7), (.v 8), (.v 9), (.v 10), (.v 11), (.v 12), (.v 13), (.v 14), (.v 15), (.v 16), (.v 17), (.v 18), (.v 19), (.v 20), (.v 21)])
  (.item (.pre (.kb true) 92 [(.v 0), (.v 1), (.v 2), (.v 3), (.v 4), (.v 5), (.v 6), (.v 7), (.v 8), (.v 9), (.v 10), (.v 11), (.v 12), (.v 13), (.v 14), (.v 15), (.v 16), (.v 17), (.v 18), (.v 19), (.v 20), (.v 21)])
  (.ite (.op2 .eq (.op1 (.wrap .i64) (.op2 .quo (.op1 (.wrap .i64) (.op2 .mul (.v 25) (.v 26))) (.ki (100)))) (.ki (0)))
   (.item (.bind 68 [(.v 2), (.op1 (.wrap .i64) (.op2 .mul (.ki (1000000)) (.ki (289)))), (.op1 (.wrap .i64) (.op2 .mul (.ki (100)) (.op2 .mn (.iteI (.op2 .lt (.v 22) (.ki (1))) (.ki (1000)) (.v 22)) (.ki (1125899906842624)))))] 27 2)
   (.item (.pre (.kb true) 68 [(.v 2), (.op1 (.wrap .i64) (.op2 .mul (.ki (1000000)) (.ki (289)))), (.op1 (.wrap .i64) (.op2 .mul (.ki (100)) (.op2 .mn (.iteI (.op2 .lt (.v 22) (.ki (1))) (.ki (1000)) (.v 22)) (.ki (1125899906842624)))))])
   (.leaf [(I64, (.op2 .mn (.op2 .mx (.op2 .mx (.v 27) (.v 23)) (.ki (1))) (.ki (1099511627776))))])))
   (.leaf [(I64, (.op2 .mn (.op2 .mx (.op2 .mx (.op1 (.wrap .i64) (.op2 .quo (.op1 (.wrap .i64) (.op2 .mul (.v 25) (.v 26))) (.ki (100)))) (.v 23)) (.ki (1))) (.ki (1099511627776))))]))))))
  (.ite (.op2 .eq (.ki (0)) (.ki (0)))
   (.item (.bind 68 [(.v 2), (.op1 (.wrap .i64) (.op2 .mul (.ki (1000000)) (.iteI (.op2 .lt (.v 2) (.v 3)) (.ki (200)) (.ki (120))))), (.op1 (.wrap .i64) (.op2 .mul (.ki (100)) (.op2 .mn (.iteI (.op2 .lt (.v 22) (.ki (1))) (.ki (1000)) (.v 22)) (.ki (1125899906842624)))))] 29 2)
   (.item (.pre (.kb true) 68 [(.v 2), (.op1 (.wrap .i64) (.op2 .mul (.ki (1000000)) (.iteI (.op2 .lt (.v 2) (.v 3)) (.ki (200)) (.ki (120))))), (.op1 (.wrap .i64) (.op2 .mul (.ki (100)) (.op2 .mn (.iteI (.op2 .lt (.v 22) (.ki (1))) (.ki (1000)) (.v 22)) (.ki (1125899906842624)))))])
   (.leaf [(I64, (.op2 .mn (.op2 .mx (.op2 .mx (.v 29) (.v 23)) (.ki (1))) (.ki (1099511627776))))])))
   (.leaf [(I64, (.op2 .mn (.op2 .mx (.op2 .mx (.ki (0)) (.v 23)) (.ki (1))) (.ki (1099511627776))))]))))))
theorem c48 : compile Go.Proofs.Try.prog [s68, s87, s91, s92] Go.Proofs.Try.f48 s48.params s48.results = some t48 := by kernel_rfl
def L48 : List (Nat × (List LV → List LV)) := [(68, F68), (87, F87), (91, F91), (92, F92)]
def M48 : List (Nat × (List LV → Prop)) := [(68, R68), (87, R87), (91, R91), (92, R92)]
theorem h48 : ∀ sg, sg ∈ [s68, s87, s91, s92] → ConOk Go.Proofs.Try.prog (ap L48) (apR M48) sg := by
  intro sg h
  simp only [List.mem_cons, List.not_mem_nil, or_false] at h
  rcases h with rfl | rfl | rfl | rfl
  · exact k68.to rfl rfl
  · exact k87.to rfl rfl
  · exact k91.to rfl rfl
  · exact k92.to rfl rfl
set_option maxRecDepth 100000 in
theorem k48 : Kon Go.Proofs.Try.prog s48 F48 R48 := by
  refine con_ok h48 (by kernel_rfl) Go.Proofs.Try.func48 (by kernel_rfl) c48 ?_
  intro ls _ hr
  simp only [t48, Tr.den, L48, M48, ap, apR, if_true, Nat.reduceEqDiff, if_false, List.map_cons, List.map_nil, E.den, O1.ev, ev_add, ev_sub, ev_mul, ev_quo, ev_rem, ev_mx, ev_mn, ev_shl, ev_shr, ev_bit, ev_lt, ev_le, ev_eq, ev_and, ev_or, ev_eqb, ev_cat, ev_rcons, ev_rd, SameL, Col.same]
  simp only [setE_lt, setE_hit, Nat.reduceLT, Nat.reduceLeDiff, Nat.reduceAdd, Nat.reduceSub]
  simp only [F87, F91, F92, F68, R68, E41]
  simp only [ccok22 (outOf ls)]
  simp only [LV.Ii, LV.Bb, LV.Ll]
  simp only [F48, F47, outOf_z, LV.Ii]
  refine ⟨fun _ => R53_ok (outOf ls) hr, ?_⟩
  by_cases hok : CcOk (outOf ls)
  case neg =>
    rw [if_neg hok, if_pos (by simp [tf_d]), if_neg hok]
    exact ⟨rfl, trivial⟩
  rw [if_pos hok, if_neg (by simp [tf_d]), if_pos hok]
  have hcb := cc_bounds hok
  have ht := tI_range (outOf ls 22).I
  have et : IntKind.i64.wrap (100 * min (if tf ((outOf ls 22).I < 1) = true then 1000 else (outOf ls 22).I) 1125899906842624) = 100 * tI (outOf ls 22).I := by
    have e : (min (if tf ((outOf ls 22).I < 1) = true then 1000 else (outOf ls 22).I) 1125899906842624) = tI (outOf ls 22).I := by
      unfold tI
      simp only [tf_t]
      split <;> split <;> omega
    rw [e, wrap_i64 (by omega) (by omega)]
  have e289 : IntKind.i64.wrap (1000000 * 289) = 289000000 := by decide
  have eg : IntKind.i64.wrap (1000000 * if tf ((outOf ls 2).I < (outOf ls 3).I) = true then 200 else 120) = (if (outOf ls 2).I < (outOf ls 3).I then 200000000 else 120000000) := by
    simp only [tf_t]
    split <;> decide
  simp only [et, e289, eg, paceR]
  generalize tI (outOf ls 22).I = t at *
  by_cases h3 : (outOf ls 0).I = 3
  · rw [if_pos ((tf_t _).mpr h3)]
    have hb := (cc3 (by omega) (by omega)).1 hok
    simp only [if_pos h3, E89 (outOf ls) hb, E56 (outOf ls) hb]
    refine ⟨fun _ => R53_ok (outOf ls) hr, fun _ => R53_ok (outOf ls) hr, ?_⟩
    have eb : IntKind.i64.wrap ((IntKind.i64.wrap (gainI (outOf ls 10).I (outOf ls 18).I * bwI (outOf ls 11).L)).tdiv 100) = bbrR (outOf ls) := rfl
    simp only [eb]
    by_cases hz : bbrR (outOf ls) = 0
    · rw [if_pos ((tf_t _).mpr hz), if_pos hz]
      refine ⟨fun _ => R90_ok _ _ _ (by omega) (by simp only [LV.Ii]; omega) (by simp only [LV.Ii]; omega), ?_⟩
      rw [E90 _ _ _ (by omega) (by simp only [LV.Ii]; omega) (by simp only [LV.Ii]; omega)]
      simp only [LV.Ii, and_true]
      omega
    · rw [if_neg (fun h => hz ((tf_t _).mp h)), if_neg hz]
      simp only [and_true]
      omega
  · rw [if_neg (fun h => h3 ((tf_t _).mp h)), if_pos (by simp [tf_d])]
    simp only [if_neg h3]
    refine ⟨fun _ => R90_ok _ _ _ (by omega) (by simp only [LV.Ii]; split <;> omega) (by simp only [LV.Ii]; omega), ?_⟩
    rw [E90 _ _ _ (by omega) (by simp only [LV.Ii]; split <;> omega) (by simp only [LV.Ii]; omega)]
    simp only [LV.Ii, and_true]
    omega
end Go.Proofs.Ythhnnfmfeofknaa.Sy
