/-
  bbr: the product, a timeout, the heads.
-/
import Derived.Test.YthhnnfmfeofknaaCx
import Derived.Test.YthhnnfmfeofknaaCs
namespace Go.Proofs.Ythhnnfmfeofknaa.Sy
open Go Go.RowKit
set_option linter.unusedSimpArgs false
set_option linter.unusedVariables false

def F96 (ls : List LV) : List LV := [.i (if BbrOk (outOf ls) then holdI (outOf ls) else 0)]
abbrev R96 := R53
/-! tideway/bbr.Product -/
def s96 : Sig := ⟨96, 96, [.agg [I64, I64, I64, I64, I64, I64, I64, I64, I64, I64, I64, (.sl [(.int .i64), (.int .i64)]), I64, I64, I64, I64, I64, I64, I64, I64, I64, I64]], [.col I64]⟩
def t96 : Tr (List (Col × E)) :=
 (.item (.bind 53 [(.v 0), (.v 1), (.v 2), (.v 3), (.v 4), (.v 5), (.v 6), (.v 7), (.v 8), (.v 9), (.v 10), (.v 11), (.v 12), (.v 13), (.v 14), (.v 15), (.v 16), (.v 17), (.v 18), (.v 19), (.v 20), (.v 21)] 22 1)
 (.item (.pre (.kb true) 53 [(.v 0), (.v 1), (.v 2), (.v 3), (.v 4), (.v 5), (.v 6), (.v 7), (.v 8), (.v 9), (.v 10), (.v 11), (.v 12), (.v 13), (.v 14), (.v 15), (.v 16), (.v 17), (.v 18), (.v 19), (.v 20), (.v 21)])
 (.ite (.op1 .not (.op2 .eq (.v 22) (.ki (0))))
 (.leaf [(I64, (.ki (0)))])
 (.item (.bind 117 [(.v 0), (.v 1), (.v 2), (.v 3), (.v 4), (.v 5), (.v 6), (.v 7), (.v 8), (.v 9), (.v 10), (.v 11), (.v 12), (.v 13), (.v 14), (.v 15), (.v 16), (.v 17), (.v 18), (.v 19), (.v 20), (.v 21)] 23 1)
 (.item (.pre (.kb true) 117 [(.v 0), (.v 1), (.v 2), (.v 3), (.v 4), (.v 5), (.v 6), (.v 7), (.v 8), (.v 9), (.v 10), (.v 11), (.v 12), (.v 13), (.v 14), (.v 15), (.v 16), (.v 17), (.v 18), (.v 19), (.v 20), (.v 21)])
 (.leaf [(I64, (.v 23))]))))))
theorem c96 : compile Go.Proofs.Try.prog [s53, s117] Go.Proofs.Try.f96 s96.params s96.results = some t96 := by kernel_rfl
def L96 : List (Nat × (List LV → List LV)) := [(53, F53), (117, F117)]
def M96 : List (Nat × (List LV → Prop)) := [(53, R53), (117, R117)]
theorem h96 : ∀ sg, sg ∈ [s53, s117] → ConOk Go.Proofs.Try.prog (ap L96) (apR M96) sg := by
  intro sg h
  simp only [List.mem_cons, List.not_mem_nil, or_false] at h
  rcases h with rfl | rfl
  · exact k53.to rfl rfl
  · exact k117.to rfl rfl
set_option maxRecDepth 100000 in
theorem k96 : Kon Go.Proofs.Try.prog s96 F96 R96 := by
  refine con_ok h96 (by kernel_rfl) Go.Proofs.Try.func96 (by kernel_rfl) c96 ?_
  intro ls _ hr
  simp only [t96, Tr.den, L96, M96, ap, apR, if_true, Nat.reduceEqDiff, if_false, List.map_cons, List.map_nil, E.den, O1.ev, ev_add, ev_sub, ev_mul, ev_quo, ev_rem, ev_mx, ev_mn, ev_shl, ev_shr, ev_bit, ev_lt, ev_le, ev_eq, ev_and, ev_or, ev_eqb, ev_cat, ev_rcons, ev_rd, SameL, Col.same]
  simp only [setE_lt, setE_hit, Nat.reduceLT, Nat.reduceLeDiff, Nat.reduceAdd, Nat.reduceSub]
  simp only [E53]
  simp only [bok22 (outOf ls)]
  simp only [LV.Ii, LV.Bb, LV.Ll]
  simp only [F96, F117, outOf_z, outOf_s, LV.Ii]
  refine ⟨fun _ => R53_ok (outOf ls) hr, ?_⟩
  by_cases hok : BbrOk (outOf ls)
  · rw [if_pos hok, if_neg (by simp [tf_d]), if_pos hok]
    refine ⟨fun _ => hok, ?_⟩
    exact ⟨rfl, trivial⟩
  · rw [if_neg hok, if_pos (by simp [tf_d]), if_neg hok]
    exact ⟨rfl, trivial⟩
def F49 (ls : List LV) : List LV := if BbrOk (outOf ls) then if SizeI (outOf ls 22).I then l22 (fset (fset (outOf ls) 21 (outOf ls 2)) 2 (outOf ls 1)) ++ [.i 0] else z22 ++ [.i 2] else z22 ++ [.i 230]
abbrev F50 := F49
abbrev R49 := R53
abbrev R50 := R53
theorem short_F49 {ls : List LV} (h : Short ls) : Short (F49 ls) := by
  unfold F49
  split
  · split
    · exact short_l _ _ h
    · exact short_z _
  · exact short_z _
/-! tideway/bbr.Timeout -/
def s49 : Sig := ⟨49, 49, [.agg [I64, I64, I64, I64, I64, I64, I64, I64, I64, I64, I64, (.sl [(.int .i64), (.int .i64)]), I64, I64, I64, I64, I64, I64, I64, I64, I64, I64], .col I64], [.agg [I64, I64, I64, I64, I64, I64, I64, I64, I64, I64, I64, (.sl [(.int .i64), (.int .i64)]), I64, I64, I64, I64, I64, I64, I64, I64, I64, I64], .col I64]⟩
def t49 : Tr (List (Col × E)) :=
 (.item (.bind 53 [(.v 0), (.v 1), (.v 2), (.v 3), (.v 4), (.v 5), (.v 6), (.v 7), (.v 8), (.v 9), (.v 10), (.v 11), (.v 12), (.v 13), (.v 14), (.v 15), (.v 16), (.v 17), (.v 18), (.v 19), (.v 20), (.v 21)] 23 1)
 (.item (.pre (.kb true) 53 [(.v 0), (.v 1), (.v 2), (.v 3), (.v 4), (.v 5), (.v 6), (.v 7), (.v 8), (.v 9), (.v 10), (.v 11), (.v 12), (.v 13), (.v 14), (.v 15), (.v 16), (.v 17), (.v 18), (.v 19), (.v 20), (.v 21)])
 (.ite (.op1 .not (.op2 .eq (.v 23) (.ki (0))))
 (.leaf [(I64, (.ki (0))), (I64, (.ki (0))), (I64, (.ki (0))), (I64, (.ki (0))), (I64, (.ki (0))), (I64, (.ki (0))), (I64, (.ki (0))), (I64, (.ki (0))), (I64, (.ki (0))), (I64, (.ki (0))), (I64, (.ki (0))), ((.sl [(.int .i64), (.int .i64)]), .lnil), (I64, (.ki (0))), (I64, (.ki (0))), (I64, (.ki (0))), (I64, (.ki (0))), (I64, (.ki (0))), (I64, (.ki (0))), (I64, (.ki (0))), (I64, (.ki (0))), (I64, (.ki (0))), (I64, (.ki (0))), (I64, (.ki (230)))])
 (.item (.bind 93 [(.ki (1073741824)), (.op2 .cat (.op2 .rcons (.v 22) .rnil) .lnil)] 24 1)
 (.item (.pre (.kb true) 93 [(.ki (1073741824)), (.op2 .cat (.op2 .rcons (.v 22) .rnil) .lnil)])
 (.ite (.op1 .not (.v 24))
  (.leaf [(I64, (.ki (0))), (I64, (.ki (0))), (I64, (.ki (0))), (I64, (.ki (0))), (I64, (.ki (0))), (I64, (.ki (0))), (I64, (.ki (0))), (I64, (.ki (0))), (I64, (.ki (0))), (I64, (.ki (0))), (I64, (.ki (0))), ((.sl [(.int .i64), (.int .i64)]), .lnil), (I64, (.ki (0))), (I64, (.ki (0))), (I64, (.ki (0))), (I64, (.ki (0))), (I64, (.ki (0))), (I64, (.ki (0))), (I64, (.ki (0))), (I64, (.ki (0))), (I64, (.ki (0))), (I64, (.ki (0))), (I64, (.ki (2)))])
  (.leaf [(I64, (.v 0)), (I64, (.v 1)), (I64, (.v 1)), (I64, (.v 3)), (I64, (.v 4)), (I64, (.v 5)), (I64, (.v 6)), (I64, (.v 7)), (I64, (.v 8)), (I64, (.v 9)), (I64, (.v 10)), ((.sl [(.int .i64), (.int .i64)]), (.v 11)), (I64, (.v 12)), (I64, (.v 13)), (I64, (.v 14)), (I64, (.v 15)), (I64, (.v 16)), (I64, (.v 17)), (I64, (.v 18)), (I64, (.v 19)), (I64, (.v 20)), (I64, (.v 2)), (I64, (.ki (0)))])))))))
theorem c49 : compile Go.Proofs.Try.prog [s53, s93] Go.Proofs.Try.f49 s49.params s49.results = some t49 := by kernel_rfl
def L49 : List (Nat × (List LV → List LV)) := [(53, F53), (93, F93)]
def M49 : List (Nat × (List LV → Prop)) := [(53, R53), (93, R93)]
theorem h49 : ∀ sg, sg ∈ [s53, s93] → ConOk Go.Proofs.Try.prog (ap L49) (apR M49) sg := by
  intro sg h
  simp only [List.mem_cons, List.not_mem_nil, or_false] at h
  rcases h with rfl | rfl
  · exact k53.to rfl rfl
  · exact k93.to rfl rfl
set_option maxRecDepth 100000 in
theorem k49 : Kon Go.Proofs.Try.prog s49 F49 R49 := by
  refine con_ok h49 (by kernel_rfl) Go.Proofs.Try.func49 (by kernel_rfl) c49 ?_
  intro ls _ hr
  simp only [t49, Tr.den, L49, M49, ap, apR, if_true, Nat.reduceEqDiff, if_false, List.map_cons, List.map_nil, E.den, O1.ev, ev_add, ev_sub, ev_mul, ev_quo, ev_rem, ev_mx, ev_mn, ev_shl, ev_shr, ev_bit, ev_lt, ev_le, ev_eq, ev_and, ev_or, ev_eqb, ev_cat, ev_rcons, ev_rd, SameL, Col.same]
  simp only [setE_lt, setE_hit, Nat.reduceLT, Nat.reduceLeDiff, Nat.reduceAdd, Nat.reduceSub]
  simp only [LV.Ll, List.headD_cons, List.cons_append, List.nil_append]
  simp only [F94, E53, E66', E93, WOk_cons, WOk_nil, and_true]
  simp only [bok22 (outOf ls)]
  simp only [LV.Ii, LV.Bb, LV.Ll]
  simp only [F50, F49, WOk_cons, WOk_nil, and_true]
  refine ⟨fun _ => R53_ok (outOf ls) hr, ?_⟩
  by_cases hok : BbrOk (outOf ls)
  case neg =>
    simp only [if_neg hok]
    rw [if_pos (by simp [tf_d])]
    simp only [out22, out22', out22b, out22z, out22zb, zeroF, fset, implies_true, Nat.reduceEqDiff, if_true, if_false, setE_lt, setE_hit, Nat.reduceLT, Nat.reduceLeDiff, Nat.reduceAdd, Nat.reduceSub, outOf_z, outOf_s, LV.Ii, LV.Bb, LV.Ll, and_true, and_self, true_and]
  simp only [if_pos hok]
  rw [if_neg (by simp [tf_d])]
  refine ⟨fun _ => R93_ok _ _ (by simp only [List.length_cons, List.length_nil]; omega), ?_⟩
  by_cases hb : SizeI (outOf ls 22).I
  case neg =>
    rw [if_pos (by simp only [Bool.or_eq_true, Bool.and_eq_true, Bool.not_eq_true', tf_t, tf_f, Bool.or_eq_false_iff, Bool.and_eq_false_iff]; exact hb)]
    simp only [if_neg hb]
    simp only [out22, out22', out22b, out22z, out22zb, zeroF, fset, implies_true, Nat.reduceEqDiff, if_true, if_false, setE_lt, setE_hit, Nat.reduceLT, Nat.reduceLeDiff, Nat.reduceAdd, Nat.reduceSub, outOf_z, outOf_s, LV.Ii, LV.Bb, LV.Ll, and_true, and_self, true_and]
  rw [if_neg (by simp only [Bool.or_eq_true, Bool.and_eq_true, Bool.not_eq_true', tf_t, tf_f, Bool.or_eq_false_iff, Bool.and_eq_false_iff]; exact fun h => h hb)]
  simp only [if_pos hb]
  simp only [out22, out22', out22b, out22z, out22zb, zeroF, fset, implies_true, Nat.reduceEqDiff, if_true, if_false, setE_lt, setE_hit, Nat.reduceLT, Nat.reduceLeDiff, Nat.reduceAdd, Nat.reduceSub, outOf_z, outOf_s, LV.Ii, LV.Bb, LV.Ll, and_true, and_self, true_and]
/-! tideway/tidewayref18.Timeout -/
def s50 : Sig := ⟨50, 50, [.agg [I64, I64, I64, I64, I64, I64, I64, I64, I64, I64, I64, (.sl [(.int .i64), (.int .i64)]), I64, I64, I64, I64, I64, I64, I64, I64, I64, I64], .col I64], [.agg [I64, I64, I64, I64, I64, I64, I64, I64, I64, I64, I64, (.sl [(.int .i64), (.int .i64)]), I64, I64, I64, I64, I64, I64, I64, I64, I64, I64], .col I64]⟩
def t50 : Tr (List (Col × E)) :=
 (.item (.bind 94 [(.v 0), (.v 1), (.v 2), (.v 3), (.v 4), (.v 5), (.v 6), (.v 7), (.v 8), (.v 9), (.v 10), (.v 11), (.v 12), (.v 13), (.v 14), (.v 15), (.v 16), (.v 17), (.v 18), (.v 19), (.v 20), (.v 21)] 23 1)
 (.item (.pre (.kb true) 94 [(.v 0), (.v 1), (.v 2), (.v 3), (.v 4), (.v 5), (.v 6), (.v 7), (.v 8), (.v 9), (.v 10), (.v 11), (.v 12), (.v 13), (.v 14), (.v 15), (.v 16), (.v 17), (.v 18), (.v 19), (.v 20), (.v 21)])
 (.ite (.op1 .not (.op2 .eq (.v 23) (.ki (0))))
 (.leaf [(I64, (.ki (0))), (I64, (.ki (0))), (I64, (.ki (0))), (I64, (.ki (0))), (I64, (.ki (0))), (I64, (.ki (0))), (I64, (.ki (0))), (I64, (.ki (0))), (I64, (.ki (0))), (I64, (.ki (0))), (I64, (.ki (0))), ((.sl [(.int .i64), (.int .i64)]), .lnil), (I64, (.ki (0))), (I64, (.ki (0))), (I64, (.ki (0))), (I64, (.ki (0))), (I64, (.ki (0))), (I64, (.ki (0))), (I64, (.ki (0))), (I64, (.ki (0))), (I64, (.ki (0))), (I64, (.ki (0))), (I64, (.ki (230)))])
 (.item (.bind 66 [(.v 22)] 24 1)
 (.item (.pre (.kb true) 66 [(.v 22)])
 (.ite (.op1 .not (.v 24))
  (.leaf [(I64, (.ki (0))), (I64, (.ki (0))), (I64, (.ki (0))), (I64, (.ki (0))), (I64, (.ki (0))), (I64, (.ki (0))), (I64, (.ki (0))), (I64, (.ki (0))), (I64, (.ki (0))), (I64, (.ki (0))), (I64, (.ki (0))), ((.sl [(.int .i64), (.int .i64)]), .lnil), (I64, (.ki (0))), (I64, (.ki (0))), (I64, (.ki (0))), (I64, (.ki (0))), (I64, (.ki (0))), (I64, (.ki (0))), (I64, (.ki (0))), (I64, (.ki (0))), (I64, (.ki (0))), (I64, (.ki (0))), (I64, (.ki (2)))])
  (.leaf [(I64, (.v 0)), (I64, (.v 1)), (I64, (.v 1)), (I64, (.v 3)), (I64, (.v 4)), (I64, (.v 5)), (I64, (.v 6)), (I64, (.v 7)), (I64, (.v 8)), (I64, (.v 9)), (I64, (.v 10)), ((.sl [(.int .i64), (.int .i64)]), (.v 11)), (I64, (.v 12)), (I64, (.v 13)), (I64, (.v 14)), (I64, (.v 15)), (I64, (.v 16)), (I64, (.v 17)), (I64, (.v 18)), (I64, (.v 19)), (I64, (.v 20)), (I64, (.v 2)), (I64, (.ki (0)))])))))))
theorem c50 : compile Go.Proofs.Try.prog [s66, s94] Go.Proofs.Try.f50 s50.params s50.results = some t50 := by kernel_rfl
def L50 : List (Nat × (List LV → List LV)) := [(66, F66), (94, F94)]
def M50 : List (Nat × (List LV → Prop)) := [(94, R94)]
theorem h50 : ∀ sg, sg ∈ [s66, s94] → ConOk Go.Proofs.Try.prog (ap L50) (apR M50) sg := by
  intro sg h
  simp only [List.mem_cons, List.not_mem_nil, or_false] at h
  rcases h with rfl | rfl
  · exact k66.to rfl rfl
  · exact k94.to rfl rfl
set_option maxRecDepth 100000 in
theorem k50 : Kon Go.Proofs.Try.prog s50 F50 R50 := by
  refine con_ok h50 (by kernel_rfl) Go.Proofs.Try.func50 (by kernel_rfl) c50 ?_
  intro ls _ hr
  simp only [t50, Tr.den, L50, M50, ap, apR, if_true, Nat.reduceEqDiff, if_false, List.map_cons, List.map_nil, E.den, O1.ev, ev_add, ev_sub, ev_mul, ev_quo, ev_rem, ev_mx, ev_mn, ev_shl, ev_shr, ev_bit, ev_lt, ev_le, ev_eq, ev_and, ev_or, ev_eqb, ev_cat, ev_rcons, ev_rd, SameL, Col.same]
  simp only [setE_lt, setE_hit, Nat.reduceLT, Nat.reduceLeDiff, Nat.reduceAdd, Nat.reduceSub]
  simp only [LV.Ll, List.headD_cons, List.cons_append, List.nil_append]
  simp only [F94, E53, E66', E93, WOk_cons, WOk_nil, and_true]
  simp only [bok22 (outOf ls)]
  simp only [LV.Ii, LV.Bb, LV.Ll]
  simp only [F50, F49, WOk_cons, WOk_nil, and_true]
  refine ⟨fun _ => R53_ok (outOf ls) hr, ?_⟩
  by_cases hok : BbrOk (outOf ls)
  case neg =>
    simp only [if_neg hok]
    rw [if_pos (by simp [tf_d])]
    simp only [out22, out22', out22b, out22z, out22zb, zeroF, fset, implies_true, Nat.reduceEqDiff, if_true, if_false, setE_lt, setE_hit, Nat.reduceLT, Nat.reduceLeDiff, Nat.reduceAdd, Nat.reduceSub, outOf_z, outOf_s, LV.Ii, LV.Bb, LV.Ll, and_true, and_self, true_and]
  simp only [if_pos hok]
  rw [if_neg (by simp [tf_d])]
  refine ⟨fun _ => trivial, ?_⟩
  by_cases hb : SizeI (outOf ls 22).I
  case neg =>
    rw [if_pos (by simp only [Bool.or_eq_true, Bool.and_eq_true, Bool.not_eq_true', tf_t, tf_f, Bool.or_eq_false_iff, Bool.and_eq_false_iff]; exact hb)]
    simp only [if_neg hb]
    simp only [out22, out22', out22b, out22z, out22zb, zeroF, fset, implies_true, Nat.reduceEqDiff, if_true, if_false, setE_lt, setE_hit, Nat.reduceLT, Nat.reduceLeDiff, Nat.reduceAdd, Nat.reduceSub, outOf_z, outOf_s, LV.Ii, LV.Bb, LV.Ll, and_true, and_self, true_and]
  rw [if_neg (by simp only [Bool.or_eq_true, Bool.and_eq_true, Bool.not_eq_true', tf_t, tf_f, Bool.or_eq_false_iff, Bool.and_eq_false_iff]; exact fun h => h hb)]
  simp only [if_pos hb]
  simp only [out22, out22', out22b, out22z, out22zb, zeroF, fset, implies_true, Nat.reduceEqDiff, if_true, if_false, setE_lt, setE_hit, Nat.reduceLT, Nat.reduceLeDiff, Nat.reduceAdd, Nat.reduceSub, outOf_z, outOf_s, LV.Ii, LV.Bb, LV.Ll, and_true, and_self, true_and]
theorem new_bbr (a b : LV) : ((outOf (FN51 [a, b]) 22).I = 0 → BbrOk (outOf (FN51 [a, b]))) ∧ ((outOf (FN51 [a, b]) 22).I = 0 → (outOf (FN51 [a, b]) 1).I = a.I ∧ (outOf (FN51 [a, b]) 11).L = []) := by
  unfold FN51
  simp only [outOf_z, outOf_s]
  by_cases hb : NewOk a.I b.I
  case neg =>
    rw [if_neg hb, out22zb _ (by omega)]
    simp [outOf]
  rw [if_pos hb]
  obtain ⟨⟨b1, b2⟩, b3, b4⟩ := hb
  have hp := prodI (a := a.I) (b := b.I) (A := 65000) (B := 100) (by omega) (by omega) b2 b4
  have k := Int.mul_le_mul_of_nonneg_left b3 (show 0 ≤ a.I by omega)
  rw [Int.mul_one] at k
  generalize a.I = m at *
  generalize b.I = n at *
  have e : outOf (l22 (newG 3 1 m n) ++ [.i 0]) 11 = .l [] := out22 _ _ (by omega)
  refine ⟨fun _ => ?_, fun _ => ⟨by rw [out22 _ _ (by omega)]; rfl, by rw [e, LV.Ll]⟩⟩
  have eF : FOk (outOf (l22 (newG 3 1 m n) ++ [.i 0]) 11).L true := by rw [e]; intro i hi; simp at hi
  have eE : EOk (outOf (l22 (newG 3 1 m n) ++ [.i 0]) 11).L (outOf (l22 (newG 3 1 m n) ++ [.i 0]) 14).I := by rw [e]; intro i hi; simp at hi
  refine ⟨?_, ?_, ?_, eF, eE⟩
  · unfold BbrPlain
    simp only [out22, newG, zeroF, Nat.reduceEqDiff, if_true, if_false, setE_lt, setE_hit, Nat.reduceLT, Nat.reduceLeDiff, Nat.reduceAdd, Nat.reduceSub, LV.Ii, LV.Bb, LV.Ll, true_and, and_true]
    generalize m * n = mn at *
    omega
  · unfold NoCubic
    simp only [out22, newG, zeroF, Nat.reduceEqDiff, if_true, if_false, setE_lt, setE_hit, Nat.reduceLT, Nat.reduceLeDiff, Nat.reduceAdd, Nat.reduceSub, LV.Ii, LV.Bb, LV.Ll, true_and, and_true]
  · unfold BbrNums TimeI SizeI
    simp only [out22, newG, zeroF, Nat.reduceEqDiff, if_true, if_false, setE_lt, setE_hit, Nat.reduceLT, Nat.reduceLeDiff, Nat.reduceAdd, Nat.reduceSub, LV.Ii, LV.Bb, LV.Ll, true_and, and_true]
    omega
/-! tideway/tidewaylaw18.heads -/
def s54 : Sig := ⟨54, 54, [], [.col (.base .bool)]⟩
def t54 : Tr (List (Col × E)) :=
 (.item (.bind 51 [(.ki (10)), (.ki (4))] 0 23)
 (.item (.pre (.kb true) 51 [(.ki (10)), (.ki (4))])
 (.item (.bind 55 [(.v 0), (.v 1), (.v 2), (.v 3), (.v 4), (.v 5), (.v 6), (.v 7), (.v 8), (.v 9), (.v 10), (.v 11), (.v 12), (.v 13), (.v 14), (.v 15), (.v 16), (.v 17), (.v 18), (.v 19), (.v 20), (.v 21), (.ki (100000)), (.ki (10)), (.ki (100000)), (.ki (1000000)), (.kb false), (.ki (10)), (.ki (0)), (.ki (30))] 23 23)
 (.item (.pre (.kb true) 55 [(.v 0), (.v 1), (.v 2), (.v 3), (.v 4), (.v 5), (.v 6), (.v 7), (.v 8), (.v 9), (.v 10), (.v 11), (.v 12), (.v 13), (.v 14), (.v 15), (.v 16), (.v 17), (.v 18), (.v 19), (.v 20), (.v 21), (.ki (100000)), (.ki (10)), (.ki (100000)), (.ki (1000000)), (.kb false), (.ki (10)), (.ki (0)), (.ki (30))])
 (.item (.bind 49 [(.v 23), (.v 24), (.v 25), (.v 26), (.v 27), (.v 28), (.v 29), (.v 30), (.v 31), (.v 32), (.v 33), (.v 34), (.v 35), (.v 36), (.v 37), (.v 38), (.v 39), (.v 40), (.v 41), (.v 42), (.v 43), (.v 44), (.ki (5))] 46 23)
 (.item (.pre (.kb true) 49 [(.v 23), (.v 24), (.v 25), (.v 26), (.v 27), (.v 28), (.v 29), (.v 30), (.v 31), (.v 32), (.v 33), (.v 34), (.v 35), (.v 36), (.v 37), (.v 38), (.v 39), (.v 40), (.v 41), (.v 42), (.v 43), (.v 44), (.ki (5))])
 (.item (.bind 51 [(.ki (0)), (.ki (1))] 69 23)
 (.item (.pre (.kb true) 51 [(.ki (0)), (.ki (1))])
 (.item (.bind 55 [(.ki (0)), (.ki (0)), (.ki (0)), (.ki (0)), (.ki (0)), (.ki (0)), (.ki (0)), (.ki (0)), (.ki (0)), (.ki (0)), (.ki (0)), .lnil, (.ki (0)), (.ki (0)), (.ki (0)), (.ki (0)), (.ki (0)), (.ki (0)), (.ki (0)), (.ki (0)), (.ki (0)), (.ki (0)), (.ki (0)), (.ki (0)), (.ki (0)), (.ki (0)), (.kb false), (.ki (0)), (.ki (0)), (.ki (0))] 92 23)
 (.item (.pre (.kb true) 55 [(.ki (0)), (.ki (0)), (.ki (0)), (.ki (0)), (.ki (0)), (.ki (0)), (.ki (0)), (.ki (0)), (.ki (0)), (.ki (0)), (.ki (0)), .lnil, (.ki (0)), (.ki (0)), (.ki (0)), (.ki (0)), (.ki (0)), (.ki (0)), (.ki (0)), (.ki (0)), (.ki (0)), (.ki (0)), (.ki (0)), (.ki (0)), (.ki (0)), (.ki (0)), (.kb false), (.ki (0)), (.ki (0)), (.ki (0))])
 (.item (.bind 56 [(.v 23), (.v 24), (.v 25), (.v 26), (.v 27), (.v 28), (.v 29), (.v 30), (.v 31), (.v 32), (.v 33), (.v 34), (.v 35), (.v 36), (.v 37), (.v 38), (.v 39), (.v 40), (.v 41), (.v 42), (.v 43), (.v 44)] 115 1)
 (.item (.bind 96 [(.v 23), (.v 24), (.v 25), (.v 26), (.v 27), (.v 28), (.v 29), (.v 30), (.v 31), (.v 32), (.v 33), (.v 34), (.v 35), (.v 36), (.v 37), (.v 38), (.v 39), (.v 40), (.v 41), (.v 42), (.v 43), (.v 44)] 116 1)
 (.item (.bind 89 [(.v 23), (.v 24), (.v 25), (.v 26), (.v 27), (.v 28), (.v 29), (.v 30), (.v 31), (.v 32), (.v 33), (.v 34), (.v 35), (.v 36), (.v 37), (.v 38), (.v 39), (.v 40), (.v 41), (.v 42), (.v 43), (.v 44)] 117 1)
 (.item (.pre (.op2 .and (.op2 .eq (.v 22) (.ki (0))) (.op2 .eq (.v 45) (.ki (0)))) 56 [(.v 23), (.v 24), (.v 25), (.v 26), (.v 27), (.v 28), (.v 29), (.v 30), (.v 31), (.v 32), (.v 33), (.v 34), (.v 35), (.v 36), (.v 37), (.v 38), (.v 39), (.v 40), (.v 41), (.v 42), (.v 43), (.v 44)])
 (.item (.pre (.op2 .and (.op2 .and (.op2 .eq (.v 22) (.ki (0))) (.op2 .eq (.v 45) (.ki (0)))) (.op2 .eq (.v 115) (.ki (1000000)))) 96 [(.v 23), (.v 24), (.v 25), (.v 26), (.v 27), (.v 28), (.v 29), (.v 30), (.v 31), (.v 32), (.v 33), (.v 34), (.v 35), (.v 36), (.v 37), (.v 38), (.v 39), (.v 40), (.v 41), (.v 42), (.v 43), (.v 44)])
 (.item (.pre (.op2 .and (.op2 .and (.op2 .and (.op2 .eq (.v 22) (.ki (0))) (.op2 .eq (.v 45) (.ki (0)))) (.op2 .eq (.v 115) (.ki (1000000)))) (.op2 .eq (.v 116) (.ki (100000)))) 89 [(.v 23), (.v 24), (.v 25), (.v 26), (.v 27), (.v 28), (.v 29), (.v 30), (.v 31), (.v 32), (.v 33), (.v 34), (.v 35), (.v 36), (.v 37), (.v 38), (.v 39), (.v 40), (.v 41), (.v 42), (.v 43), (.v 44)])
 (.leaf [((.base .bool), (.op2 .and (.op2 .and (.op2 .and (.op2 .and (.op2 .and (.op2 .and (.op2 .and (.op2 .and (.op2 .and (.op2 .eq (.v 22) (.ki (0))) (.op2 .eq (.v 45) (.ki (0)))) (.op2 .eq (.v 115) (.ki (1000000)))) (.op2 .eq (.v 116) (.ki (100000)))) (.op2 .eq (.v 117) (.ki (289)))) (.op2 .eq (.v 37) (.ki (1)))) (.op2 .eq (.v 68) (.ki (0)))) (.op2 .eq (.v 48) (.ki (10)))) (.op2 .eq (.v 91) (.ki (2)))) (.op2 .eq (.v 114) (.ki (230)))))])))))))))))))))))
theorem c54 : compile Go.Proofs.Try.prog [s49, s51, s55, s56, s89, s96] Go.Proofs.Try.f54 s54.params s54.results = some t54 := by kernel_rfl
def L54 : List (Nat × (List LV → List LV)) := [(49, F49), (51, FN51), (55, F55), (56, F56), (89, F89), (96, F96)]
def M54 : List (Nat × (List LV → Prop)) := [(49, R49), (55, R55), (56, R56), (89, R89), (96, R96)]
theorem h54 : ∀ sg, sg ∈ [s49, s51, s55, s56, s89, s96] → ConOk Go.Proofs.Try.prog (ap L54) (apR M54) sg := by
  intro sg h
  simp only [List.mem_cons, List.not_mem_nil, or_false] at h
  rcases h with rfl | rfl | rfl | rfl | rfl | rfl
  · exact k49.to rfl rfl
  · exact kN51.to rfl rfl
  · exact k55.to rfl rfl
  · exact k56.to rfl rfl
  · exact k89.to rfl rfl
  · exact k96.to rfl rfl
def F54 (_ : List LV) : List LV := [.b true]
set_option maxRecDepth 100000 in
theorem k54 : Kon Go.Proofs.Try.prog s54 F54 (fun _ => True) := by
  refine con_ok h54 (by kernel_rfl) Go.Proofs.Try.func54 (by kernel_rfl) c54 ?_
  intro ls _ _
  simp only [t54, Tr.den, L54, M54, ap, apR, if_true, Nat.reduceEqDiff, if_false, List.map_cons, List.map_nil, E.den, O1.ev, ev_add, ev_sub, ev_mul, ev_quo, ev_rem, ev_mx, ev_mn, ev_shl, ev_shr, ev_bit, ev_lt, ev_le, ev_eq, ev_and, ev_or, ev_eqb, ev_cat, ev_rcons, ev_rd, SameL, Col.same]
  simp only [setE_lt, setE_hit, Nat.reduceLT, Nat.reduceLeDiff, Nat.reduceAdd, Nat.reduceSub]
  simp only [LV.Ii, LV.Bb, LV.Ll]
  refine ⟨fun _ => trivial, fun _ => by unfold R55 Few; decide +kernel, fun _ => by unfold R49 R53 Short; decide +kernel, fun _ => trivial, fun _ => by unfold R55 Few; decide +kernel, fun _ => by unfold R56 R53 Short; decide +kernel, fun _ => by unfold R96 R53 Short; decide +kernel, fun _ => by unfold R89 R53 Short; decide +kernel, ?_, trivial⟩
  simp only [F54, outOf_z, LV.Bb]
  simp only [Bool.or_eq_true, Bool.and_eq_true, Bool.not_eq_true', tf_t, tf_f, Bool.or_eq_false_iff, Bool.and_eq_false_iff]
  repeat' apply And.intro
  all_goals kernel_rfl
end Go.Proofs.Ythhnnfmfeofknaa.Sy
