/-
  cubic: losses, timeouts, a recovery's end, fresh controllers; the comparison of two controllers that are the same.
-/
import Derived.Test.YthhnnfmfeofknaaCl
namespace Go.Proofs.Ythhnnfmfeofknaa.Sy
open Go Go.RowKit
set_option linter.unusedSimpArgs false
set_option linter.unusedVariables false

/-- Two controllers that are the same. -/
def R25 (ls : List LV) : Prop := ((outOf ls 0).I = (outOf ls 22).I ∧ (outOf ls 1).I = (outOf ls 23).I ∧ (outOf ls 2).I = (outOf ls 24).I ∧ (outOf ls 3).I = (outOf ls 25).I ∧ (outOf ls 4).I = (outOf ls 26).I ∧ (outOf ls 5).I = (outOf ls 27).I ∧ (outOf ls 6).I = (outOf ls 28).I ∧ (outOf ls 7).I = (outOf ls 29).I ∧ (outOf ls 8).I = (outOf ls 30).I ∧ (outOf ls 9).I = (outOf ls 31).I ∧ (outOf ls 10).I = (outOf ls 32).I ∧ (outOf ls 12).I = (outOf ls 34).I ∧ (outOf ls 13).I = (outOf ls 35).I ∧ (outOf ls 14).I = (outOf ls 36).I ∧ (outOf ls 15).I = (outOf ls 37).I ∧ (outOf ls 16).I = (outOf ls 38).I ∧ (outOf ls 17).I = (outOf ls 39).I ∧ (outOf ls 18).I = (outOf ls 40).I ∧ (outOf ls 19).I = (outOf ls 41).I ∧ (outOf ls 20).I = (outOf ls 42).I ∧ (outOf ls 21).I = (outOf ls 43).I) ∧ (outOf ls 11).L = (outOf ls 33).L ∧ (outOf ls 11).L.length ≤ 9223372036854775807
def F25 (_ : List LV) : List LV := [.b true]
/-! tideway/tidewayref15.Same -/
def s25 : Sig := ⟨25, 25, [.agg [I64, I64, I64, I64, I64, I64, I64, I64, I64, I64, I64, (.sl [(.int .i64), (.int .i64)]), I64, I64, I64, I64, I64, I64, I64, I64, I64, I64], .agg [I64, I64, I64, I64, I64, I64, I64, I64, I64, I64, I64, (.sl [(.int .i64), (.int .i64)]), I64, I64, I64, I64, I64, I64, I64, I64, I64, I64]], [.col (.base .bool)]⟩
def t25 : Tr (List (Col × E)) :=
 (.ite (.op2 .or (.op2 .or (.op2 .or (.op2 .or (.op2 .or (.op2 .or (.op2 .or (.op2 .or (.op2 .or (.op1 .not (.op2 .eq (.v 0) (.v 22))) (.op1 .not (.op2 .eq (.v 1) (.v 23)))) (.op1 .not (.op2 .eq (.v 2) (.v 24)))) (.op1 .not (.op2 .eq (.v 3) (.v 25)))) (.op1 .not (.op2 .eq (.v 4) (.v 26)))) (.op1 .not (.op2 .eq (.v 5) (.v 27)))) (.op1 .not (.op2 .eq (.v 6) (.v 28)))) (.op1 .not (.op2 .eq (.v 7) (.v 29)))) (.op1 .not (.op2 .eq (.v 8) (.v 30)))) (.op1 .not (.op2 .eq (.v 9) (.v 31))))
 (.leaf [((.base .bool), (.kb false))])
 (.ite (.op2 .or (.op2 .or (.op2 .or (.op2 .or (.op2 .or (.op2 .or (.op2 .or (.op2 .or (.op2 .or (.op2 .or (.op2 .or (.op1 .not (.op2 .eq (.v 10) (.v 32))) (.op1 .not (.op2 .eq (.v 12) (.v 34)))) (.op1 .not (.op2 .eq (.v 13) (.v 35)))) (.op1 .not (.op2 .eq (.v 14) (.v 36)))) (.op1 .not (.op2 .eq (.v 15) (.v 37)))) (.op1 .not (.op2 .eq (.v 16) (.v 38)))) (.op1 .not (.op2 .eq (.v 17) (.v 39)))) (.op1 .not (.op2 .eq (.v 18) (.v 40)))) (.op1 .not (.op2 .eq (.v 19) (.v 41)))) (.op1 .not (.op2 .eq (.v 20) (.v 42)))) (.op1 .not (.op2 .eq (.v 21) (.v 43)))) (.op1 .not (.op2 .eq (.len (.v 11)) (.len (.v 33)))))
  (.leaf [((.base .bool), (.kb false))])
  (.loop 44 1 [(.ki (0))]
   (.ite (.op2 .lt (.v 44) (.len (.v 11)))
    (.item (.need (.op2 .le (.ki (0)) (.v 44)))
    (.item (.need (.op2 .lt (.v 44) (.len (.v 11))))
    (.item (.need (.op2 .le (.ki (0)) (.v 44)))
    (.item (.need (.op2 .lt (.v 44) (.len (.v 33))))
    (.ite (.op1 .not (.op2 .and (.op2 .eq (.op2 (.rd 0) (.v 11) (.v 44)) (.op2 (.rd 0) (.v 33) (.v 44))) (.op2 .and (.op2 .eq (.op2 (.rd 1) (.v 11) (.v 44)) (.op2 (.rd 1) (.v 33) (.v 44))) (.kb true))))
     (.leaf [((.base .bool), (.kb false))])
     (.next 0 [(.op1 (.wrap .i64) (.op2 .add (.v 44) (.ki (1))))]))))))
    (.leaf [((.base .bool), (.kb true))])))))
theorem c25 : compile Go.Proofs.Try.prog [] Go.Proofs.Try.f25 s25.params s25.results = some t25 := by kernel_rfl
def L25 : List (Nat × (List LV → List LV)) := []
def M25 : List (Nat × (List LV → Prop)) := []
theorem h25 : ∀ sg, sg ∈ ([] : List Sig) → ConOk Go.Proofs.Try.prog (ap L25) (apR M25) sg := fun _ h => absurd h (List.not_mem_nil)
set_option maxRecDepth 100000 in
theorem k25 : Kon Go.Proofs.Try.prog s25 F25 R25 := by
  refine con_ok h25 (by kernel_rfl) Go.Proofs.Try.func25 (by kernel_rfl) c25 ?_
  intro ls _ hr
  obtain ⟨h1, h2, h3⟩ := hr
  simp only [F25, outOf_z, LV.Bb]
  simp only [t25, Tr.den, L25, M25, ap, apR, if_true, Nat.reduceEqDiff, if_false, List.map_cons, List.map_nil, E.den, O1.ev, ev_add, ev_sub, ev_mul, ev_quo, ev_rem, ev_mx, ev_mn, ev_shl, ev_shr, ev_bit, ev_lt, ev_le, ev_eq, ev_and, ev_or, ev_eqb, ev_cat, ev_rcons, ev_rd, SameL, Col.same, List.nil_append, nextAt]
  simp only [setE_lt, setE_hit, Nat.reduceLT, Nat.reduceLeDiff, Nat.reduceAdd, Nat.reduceSub]
  simp only [LV.Ii, LV.Bb, LV.Ll]
  simp only [← h2]
  rw [if_neg (by simp only [Bool.or_eq_true, Bool.and_eq_true, Bool.not_eq_true', tf_t, tf_f, Bool.or_eq_false_iff, Bool.and_eq_false_iff]; omega), if_neg (by simp only [Bool.or_eq_true, Bool.and_eq_true, Bool.not_eq_true', tf_t, tf_f, Bool.or_eq_false_iff, Bool.and_eq_false_iff, not_true_eq_false, or_false]; omega)]
  generalize (outOf ls 11).L = rows at *
  clear h1
  refine loop_ok (fun xs => ∃ i : Nat, xs = [.i i] ∧ i ≤ rows.length) (fun xs => rows.length - (outOf xs 0).I.toNat) ?_ ⟨0, rfl, by omega⟩
  rintro xs ih ⟨i, rfl, hi⟩ hih
  simp only [outOf_z, LV.Ii]
  by_cases hlt : (i : Int) < rows.length
  · rw [if_pos ((tf_t _).mpr hlt)]
    refine ⟨(tf_t _).mpr (by omega), (tf_t _).mpr hlt, (tf_t _).mpr (by omega), (tf_t _).mpr hlt, ?_⟩
    rw [if_neg (by simp only [Bool.or_eq_true, Bool.and_eq_true, Bool.not_eq_true', tf_t, tf_f, Bool.or_eq_false_iff, Bool.and_eq_false_iff]; simp)]
    rw [wrap_i64 (by omega) (by omega)]
    exact hih _ ⟨i + 1, by simp, by omega⟩ (by simp only [outOf_z, LV.Ii]; omega)
  · rw [if_neg (fun h => hlt ((tf_t _).mp h))]
    trivial
def fell (f : Nat → LV) : Nat → LV := fun i =>
  if i = 3 then .i (max (2 * (f 1).I) (7 * (f 2).I / 10)) else if i = 4 then .i 0 else if i = 5 then .i (if (f 2).I < (f 5).I then 17 * (f 2).I / 20 else (f 2).I) else if i = 6 then .i (-1) else f i
def F32 (ls : List LV) : List LV := if CubicOk (outOf ls) then if SizeI (outOf ls 22).I then l22 (fell (outOf ls)) ++ [.i 0] else z22 ++ [.i 2] else z22 ++ [.i 230]
def F35 (ls : List LV) : List LV := if CubicOk (outOf ls) then if SizeI (outOf ls 22).I then l22 (fset (fell (outOf ls)) 2 (outOf ls 1)) ++ [.i 0] else z22 ++ [.i 2] else z22 ++ [.i 230]
def F33 (ls : List LV) : List LV := if CubicOk (outOf ls) then l22 (fset (outOf ls) 2 (outOf ls 3)) ++ [.i 0] else z22 ++ [.i 230]
def F81079 (ls : List LV) : List LV := if CubicOk (outOf ls) then if SizeI (outOf ls 22).I then l22 (fset (outOf ls) 2 (outOf ls 3)) ++ [.i 0] else z22 ++ [.i 2] else z22 ++ [.i 230]
abbrev F80079 := F32
abbrev F82079 := F35
abbrev F34 := F32
abbrev F36 := F35
abbrev F37 := F33
theorem fell_facts {f : Nat → LV} (h : CubicOk f) : IntKind.i64.wrap (2 * (f 1).I) = 2 * (f 1).I ∧ IntKind.i64.wrap ((IntKind.i64.wrap (7 * (f 2).I)).tdiv 10) = 7 * (f 2).I / 10 ∧ IntKind.i64.wrap ((IntKind.i64.wrap (17 * (f 2).I)).tdiv 20) = 17 * (f 2).I / 20 ∧
    IntKind.i64.wrap ((IntKind.i64.wrap ((f 2).I * 7)).tdiv 10) = 7 * (f 2).I / 10 ∧ IntKind.i64.wrap ((IntKind.i64.wrap ((f 2).I * 17)).tdiv 20) = 17 * (f 2).I / 20 := by
  unfold CubicOk Common at h
  rw [Int.mul_comm (f 2).I 7, Int.mul_comm (f 2).I 17]
  rw [wrap_i64 (n := 2 * (f 1).I) (by omega) (by omega), wrap_i64 (n := 7 * (f 2).I) (by omega) (by omega), wrap_i64 (n := 17 * (f 2).I) (by omega) (by omega), Int.tdiv_eq_ediv_of_nonneg (by omega), Int.tdiv_eq_ediv_of_nonneg (by omega), wrap_i64 (by omega) (by omega), wrap_i64 (by omega) (by omega)]
  exact ⟨rfl, rfl, rfl, rfl, rfl⟩

/-! tideway/cubic.moved -/
def s80079 : Sig := ⟨80079, 79, [.agg [I64, I64, I64, I64, I64, I64, I64, I64, I64, I64, I64, (.sl [(.int .i64), (.int .i64)]), I64, I64, I64, I64, I64, I64, I64, I64, I64, I64], .col I64, .fn 80], [.agg [I64, I64, I64, I64, I64, I64, I64, I64, I64, I64, I64, (.sl [(.int .i64), (.int .i64)]), I64, I64, I64, I64, I64, I64, I64, I64, I64, I64], .col I64]⟩
def t80079 : Tr (List (Col × E)) :=
 (.item (.bind 26 [(.v 0), (.v 1), (.v 2), (.v 3), (.v 4), (.v 5), (.v 6), (.v 7), (.v 8), (.v 9), (.v 10), (.v 11), (.v 12), (.v 13), (.v 14), (.v 15), (.v 16), (.v 17), (.v 18), (.v 19), (.v 20), (.v 21)] 23 1)
 (.item (.pre (.kb true) 26 [(.v 0), (.v 1), (.v 2), (.v 3), (.v 4), (.v 5), (.v 6), (.v 7), (.v 8), (.v 9), (.v 10), (.v 11), (.v 12), (.v 13), (.v 14), (.v 15), (.v 16), (.v 17), (.v 18), (.v 19), (.v 20), (.v 21)])
 (.ite (.op1 .not (.op2 .eq (.v 23) (.ki (0))))
 (.leaf [(I64, (.ki (0))), (I64, (.ki (0))), (I64, (.ki (0))), (I64, (.ki (0))), (I64, (.ki (0))), (I64, (.ki (0))), (I64, (.ki (0))), (I64, (.ki (0))), (I64, (.ki (0))), (I64, (.ki (0))), (I64, (.ki (0))), ((.sl [(.int .i64), (.int .i64)]), .lnil), (I64, (.ki (0))), (I64, (.ki (0))), (I64, (.ki (0))), (I64, (.ki (0))), (I64, (.ki (0))), (I64, (.ki (0))), (I64, (.ki (0))), (I64, (.ki (0))), (I64, (.ki (0))), (I64, (.ki (0))), (I64, (.ki (230)))])
 (.item (.bind 64 [(.op2 .cat (.op2 .rcons (.v 22) .rnil) .lnil)] 24 1)
 (.item (.pre (.kb true) 64 [(.op2 .cat (.op2 .rcons (.v 22) .rnil) .lnil)])
 (.ite (.op1 .not (.v 24))
  (.leaf [(I64, (.ki (0))), (I64, (.ki (0))), (I64, (.ki (0))), (I64, (.ki (0))), (I64, (.ki (0))), (I64, (.ki (0))), (I64, (.ki (0))), (I64, (.ki (0))), (I64, (.ki (0))), (I64, (.ki (0))), (I64, (.ki (0))), ((.sl [(.int .i64), (.int .i64)]), .lnil), (I64, (.ki (0))), (I64, (.ki (0))), (I64, (.ki (0))), (I64, (.ki (0))), (I64, (.ki (0))), (I64, (.ki (0))), (I64, (.ki (0))), (I64, (.ki (0))), (I64, (.ki (0))), (I64, (.ki (0))), (I64, (.ki (2)))])
  (.item (.bind 80 [(.v 0), (.v 1), (.v 2), (.v 3), (.v 4), (.v 5), (.v 6), (.v 7), (.v 8), (.v 9), (.v 10), (.v 11), (.v 12), (.v 13), (.v 14), (.v 15), (.v 16), (.v 17), (.v 18), (.v 19), (.v 20), (.v 21)] 25 22)
  (.item (.pre (.kb true) 80 [(.v 0), (.v 1), (.v 2), (.v 3), (.v 4), (.v 5), (.v 6), (.v 7), (.v 8), (.v 9), (.v 10), (.v 11), (.v 12), (.v 13), (.v 14), (.v 15), (.v 16), (.v 17), (.v 18), (.v 19), (.v 20), (.v 21)])
  (.leaf [(I64, (.v 25)), (I64, (.v 26)), (I64, (.v 27)), (I64, (.v 28)), (I64, (.v 29)), (I64, (.v 30)), (I64, (.v 31)), (I64, (.v 32)), (I64, (.v 33)), (I64, (.v 34)), (I64, (.v 35)), ((.sl [(.int .i64), (.int .i64)]), (.v 36)), (I64, (.v 37)), (I64, (.v 38)), (I64, (.v 39)), (I64, (.v 40)), (I64, (.v 41)), (I64, (.v 42)), (I64, (.v 43)), (I64, (.v 44)), (I64, (.v 45)), (I64, (.v 46)), (I64, (.ki (0)))])))))))))
theorem c80079 : compile Go.Proofs.Try.prog [s26, s64, s80] Go.Proofs.Try.f79 s80079.params s80079.results = some t80079 := by kernel_rfl
def L80079 : List (Nat × (List LV → List LV)) := [(26, F26), (64, F64), (80, F80)]
def M80079 : List (Nat × (List LV → Prop)) := [(64, R64)]
theorem h80079 : ∀ sg, sg ∈ [s26, s64, s80] → ConOk Go.Proofs.Try.prog (ap L80079) (apR M80079) sg := by
  intro sg h
  simp only [List.mem_cons, List.not_mem_nil, or_false] at h
  rcases h with rfl | rfl | rfl
  · exact k26.to rfl rfl
  · exact k64.to rfl rfl
  · exact k80.to rfl rfl
set_option maxRecDepth 100000 in
theorem k80079 : Kon Go.Proofs.Try.prog s80079 F80079 (fun _ => True) := by
  refine con_ok h80079 (by kernel_rfl) Go.Proofs.Try.func79 (by kernel_rfl) c80079 ?_
  intro ls _ _
  simp only [t80079, Tr.den, L80079, M80079, ap, apR, if_true, Nat.reduceEqDiff, if_false, List.map_cons, List.map_nil, E.den, O1.ev, ev_add, ev_sub, ev_mul, ev_quo, ev_rem, ev_mx, ev_mn, ev_shl, ev_shr, ev_bit, ev_lt, ev_le, ev_eq, ev_and, ev_or, ev_eqb, ev_cat, ev_rcons, ev_rd, SameL, Col.same]
  simp only [setE_lt, setE_hit, Nat.reduceLT, Nat.reduceLeDiff, Nat.reduceAdd, Nat.reduceSub]
  simp only [LV.Ll, List.headD_cons, List.cons_append, List.nil_append]
  simp only [E26, E64a]
  simp only [cok22 (outOf ls)]
  simp only [LV.Ii, LV.Bb, LV.Ll]
  simp only [F80079, F82079, F32, F35, F81079]
  refine ⟨fun _ => trivial, ?_⟩
  by_cases hok : CubicOk (outOf ls)
  case neg =>
    simp only [if_neg hok]
    rw [if_pos (by simp [tf_d])]
    simp only [out22, out22b, out22z, out22zb, zeroF, fset, fell, Nat.reduceEqDiff, if_true, if_false, setE_lt, setE_hit, Nat.reduceLT, Nat.reduceLeDiff, Nat.reduceAdd, Nat.reduceSub, outOf_z, outOf_s, LV.Ii, LV.Bb, LV.Ll, and_true, and_self, true_and]
  simp only [if_pos hok]
  rw [if_neg (by simp [tf_d])]
  refine ⟨fun _ => R64a _, ?_⟩
  by_cases hb : SizeI (outOf ls 22).I
  case neg =>
    rw [if_pos (by simp only [Bool.or_eq_true, Bool.and_eq_true, Bool.not_eq_true', tf_t, tf_f, Bool.or_eq_false_iff, Bool.and_eq_false_iff]; exact hb)]
    simp only [if_neg hb]
    simp only [out22, out22b, out22z, out22zb, zeroF, fset, fell, Nat.reduceEqDiff, if_true, if_false, setE_lt, setE_hit, Nat.reduceLT, Nat.reduceLeDiff, Nat.reduceAdd, Nat.reduceSub, outOf_z, outOf_s, LV.Ii, LV.Bb, LV.Ll, and_true, and_self, true_and]
  rw [if_neg (by simp only [Bool.or_eq_true, Bool.and_eq_true, Bool.not_eq_true', tf_t, tf_f, Bool.or_eq_false_iff, Bool.and_eq_false_iff]; exact fun h => h hb)]
  simp only [if_pos hb]
  refine ⟨fun _ => trivial, ?_⟩
  obtain ⟨w1, w2, w3, w4, w5⟩ := fell_facts hok
  simp only [F80, t80, Tr.ev, L80, ap, if_true, Nat.reduceEqDiff, if_false, List.map_cons, List.map_nil, E.den, O1.ev, ev_add, ev_sub, ev_mul, ev_quo, ev_rem, ev_mx, ev_mn, ev_shl, ev_shr, ev_bit, ev_lt, ev_le, ev_eq, ev_and, ev_or, ev_eqb, ev_cat, ev_rcons, ev_rd]
  simp only [outOf_z, outOf_s, LV.Ii, LV.Bb, LV.Ll, w1, w2, w3, tf_t]
  simp only [out22, out22b, out22z, out22zb, zeroF, fset, fell, Nat.reduceEqDiff, if_true, if_false, setE_lt, setE_hit, Nat.reduceLT, Nat.reduceLeDiff, Nat.reduceAdd, Nat.reduceSub, outOf_z, outOf_s, LV.Ii, LV.Bb, LV.Ll, and_true, and_self, true_and]
/-! tideway/cubic.moved -/
def s81079 : Sig := ⟨81079, 79, [.agg [I64, I64, I64, I64, I64, I64, I64, I64, I64, I64, I64, (.sl [(.int .i64), (.int .i64)]), I64, I64, I64, I64, I64, I64, I64, I64, I64, I64], .col I64, .fn 81], [.agg [I64, I64, I64, I64, I64, I64, I64, I64, I64, I64, I64, (.sl [(.int .i64), (.int .i64)]), I64, I64, I64, I64, I64, I64, I64, I64, I64, I64], .col I64]⟩
def t81079 : Tr (List (Col × E)) :=
 (.item (.bind 26 [(.v 0), (.v 1), (.v 2), (.v 3), (.v 4), (.v 5), (.v 6), (.v 7), (.v 8), (.v 9), (.v 10), (.v 11), (.v 12), (.v 13), (.v 14), (.v 15), (.v 16), (.v 17), (.v 18), (.v 19), (.v 20), (.v 21)] 23 1)
 (.item (.pre (.kb true) 26 [(.v 0), (.v 1), (.v 2), (.v 3), (.v 4), (.v 5), (.v 6), (.v 7), (.v 8), (.v 9), (.v 10), (.v 11), (.v 12), (.v 13), (.v 14), (.v 15), (.v 16), (.v 17), (.v 18), (.v 19), (.v 20), (.v 21)])
 (.ite (.op1 .not (.op2 .eq (.v 23) (.ki (0))))
 (.leaf [(I64, (.ki (0))), (I64, (.ki (0))), (I64, (.ki (0))), (I64, (.ki (0))), (I64, (.ki (0))), (I64, (.ki (0))), (I64, (.ki (0))), (I64, (.ki (0))), (I64, (.ki (0))), (I64, (.ki (0))), (I64, (.ki (0))), ((.sl [(.int .i64), (.int .i64)]), .lnil), (I64, (.ki (0))), (I64, (.ki (0))), (I64, (.ki (0))), (I64, (.ki (0))), (I64, (.ki (0))), (I64, (.ki (0))), (I64, (.ki (0))), (I64, (.ki (0))), (I64, (.ki (0))), (I64, (.ki (0))), (I64, (.ki (230)))])
 (.item (.bind 64 [(.op2 .cat (.op2 .rcons (.v 22) .rnil) .lnil)] 24 1)
 (.item (.pre (.kb true) 64 [(.op2 .cat (.op2 .rcons (.v 22) .rnil) .lnil)])
 (.ite (.op1 .not (.v 24))
  (.leaf [(I64, (.ki (0))), (I64, (.ki (0))), (I64, (.ki (0))), (I64, (.ki (0))), (I64, (.ki (0))), (I64, (.ki (0))), (I64, (.ki (0))), (I64, (.ki (0))), (I64, (.ki (0))), (I64, (.ki (0))), (I64, (.ki (0))), ((.sl [(.int .i64), (.int .i64)]), .lnil), (I64, (.ki (0))), (I64, (.ki (0))), (I64, (.ki (0))), (I64, (.ki (0))), (I64, (.ki (0))), (I64, (.ki (0))), (I64, (.ki (0))), (I64, (.ki (0))), (I64, (.ki (0))), (I64, (.ki (0))), (I64, (.ki (2)))])
  (.item (.bind 81 [(.v 0), (.v 1), (.v 2), (.v 3), (.v 4), (.v 5), (.v 6), (.v 7), (.v 8), (.v 9), (.v 10), (.v 11), (.v 12), (.v 13), (.v 14), (.v 15), (.v 16), (.v 17), (.v 18), (.v 19), (.v 20), (.v 21)] 25 22)
  (.item (.pre (.kb true) 81 [(.v 0), (.v 1), (.v 2), (.v 3), (.v 4), (.v 5), (.v 6), (.v 7), (.v 8), (.v 9), (.v 10), (.v 11), (.v 12), (.v 13), (.v 14), (.v 15), (.v 16), (.v 17), (.v 18), (.v 19), (.v 20), (.v 21)])
  (.leaf [(I64, (.v 25)), (I64, (.v 26)), (I64, (.v 27)), (I64, (.v 28)), (I64, (.v 29)), (I64, (.v 30)), (I64, (.v 31)), (I64, (.v 32)), (I64, (.v 33)), (I64, (.v 34)), (I64, (.v 35)), ((.sl [(.int .i64), (.int .i64)]), (.v 36)), (I64, (.v 37)), (I64, (.v 38)), (I64, (.v 39)), (I64, (.v 40)), (I64, (.v 41)), (I64, (.v 42)), (I64, (.v 43)), (I64, (.v 44)), (I64, (.v 45)), (I64, (.v 46)), (I64, (.ki (0)))])))))))))
theorem c81079 : compile Go.Proofs.Try.prog [s26, s64, s81] Go.Proofs.Try.f79 s81079.params s81079.results = some t81079 := by kernel_rfl
def L81079 : List (Nat × (List LV → List LV)) := [(26, F26), (64, F64), (81, F81)]
def M81079 : List (Nat × (List LV → Prop)) := [(64, R64)]
theorem h81079 : ∀ sg, sg ∈ [s26, s64, s81] → ConOk Go.Proofs.Try.prog (ap L81079) (apR M81079) sg := by
  intro sg h
  simp only [List.mem_cons, List.not_mem_nil, or_false] at h
  rcases h with rfl | rfl | rfl
  · exact k26.to rfl rfl
  · exact k64.to rfl rfl
  · exact k81.to rfl rfl
set_option maxRecDepth 100000 in
theorem k81079 : Kon Go.Proofs.Try.prog s81079 F81079 (fun _ => True) := by
  refine con_ok h81079 (by kernel_rfl) Go.Proofs.Try.func79 (by kernel_rfl) c81079 ?_
  intro ls _ _
  simp only [t81079, Tr.den, L81079, M81079, ap, apR, if_true, Nat.reduceEqDiff, if_false, List.map_cons, List.map_nil, E.den, O1.ev, ev_add, ev_sub, ev_mul, ev_quo, ev_rem, ev_mx, ev_mn, ev_shl, ev_shr, ev_bit, ev_lt, ev_le, ev_eq, ev_and, ev_or, ev_eqb, ev_cat, ev_rcons, ev_rd, SameL, Col.same]
  simp only [setE_lt, setE_hit, Nat.reduceLT, Nat.reduceLeDiff, Nat.reduceAdd, Nat.reduceSub]
  simp only [LV.Ll, List.headD_cons, List.cons_append, List.nil_append]
  simp only [E26, E64a]
  simp only [cok22 (outOf ls)]
  simp only [LV.Ii, LV.Bb, LV.Ll]
  simp only [F80079, F82079, F32, F35, F81079]
  refine ⟨fun _ => trivial, ?_⟩
  by_cases hok : CubicOk (outOf ls)
  case neg =>
    simp only [if_neg hok]
    rw [if_pos (by simp [tf_d])]
    simp only [out22, out22b, out22z, out22zb, zeroF, fset, fell, Nat.reduceEqDiff, if_true, if_false, setE_lt, setE_hit, Nat.reduceLT, Nat.reduceLeDiff, Nat.reduceAdd, Nat.reduceSub, outOf_z, outOf_s, LV.Ii, LV.Bb, LV.Ll, and_true, and_self, true_and]
  simp only [if_pos hok]
  rw [if_neg (by simp [tf_d])]
  refine ⟨fun _ => R64a _, ?_⟩
  by_cases hb : SizeI (outOf ls 22).I
  case neg =>
    rw [if_pos (by simp only [Bool.or_eq_true, Bool.and_eq_true, Bool.not_eq_true', tf_t, tf_f, Bool.or_eq_false_iff, Bool.and_eq_false_iff]; exact hb)]
    simp only [if_neg hb]
    simp only [out22, out22b, out22z, out22zb, zeroF, fset, fell, Nat.reduceEqDiff, if_true, if_false, setE_lt, setE_hit, Nat.reduceLT, Nat.reduceLeDiff, Nat.reduceAdd, Nat.reduceSub, outOf_z, outOf_s, LV.Ii, LV.Bb, LV.Ll, and_true, and_self, true_and]
  rw [if_neg (by simp only [Bool.or_eq_true, Bool.and_eq_true, Bool.not_eq_true', tf_t, tf_f, Bool.or_eq_false_iff, Bool.and_eq_false_iff]; exact fun h => h hb)]
  simp only [if_pos hb]
  refine ⟨fun _ => trivial, ?_⟩
  obtain ⟨w1, w2, w3, w4, w5⟩ := fell_facts hok
  simp only [F81, t81, Tr.ev, L81, ap, if_true, Nat.reduceEqDiff, if_false, List.map_cons, List.map_nil, E.den, O1.ev, ev_add, ev_sub, ev_mul, ev_quo, ev_rem, ev_mx, ev_mn, ev_shl, ev_shr, ev_bit, ev_lt, ev_le, ev_eq, ev_and, ev_or, ev_eqb, ev_cat, ev_rcons, ev_rd]
  simp only [outOf_z, outOf_s, LV.Ii, LV.Bb, LV.Ll]
  simp only [out22, out22b, out22z, out22zb, zeroF, fset, fell, Nat.reduceEqDiff, if_true, if_false, setE_lt, setE_hit, Nat.reduceLT, Nat.reduceLeDiff, Nat.reduceAdd, Nat.reduceSub, outOf_z, outOf_s, LV.Ii, LV.Bb, LV.Ll, and_true, and_self, true_and]
/-! tideway/cubic.moved -/
def s82079 : Sig := ⟨82079, 79, [.agg [I64, I64, I64, I64, I64, I64, I64, I64, I64, I64, I64, (.sl [(.int .i64), (.int .i64)]), I64, I64, I64, I64, I64, I64, I64, I64, I64, I64], .col I64, .fn 82], [.agg [I64, I64, I64, I64, I64, I64, I64, I64, I64, I64, I64, (.sl [(.int .i64), (.int .i64)]), I64, I64, I64, I64, I64, I64, I64, I64, I64, I64], .col I64]⟩
def t82079 : Tr (List (Col × E)) :=
 (.item (.bind 26 [(.v 0), (.v 1), (.v 2), (.v 3), (.v 4), (.v 5), (.v 6), (.v 7), (.v 8), (.v 9), (.v 10), (.v 11), (.v 12), (.v 13), (.v 14), (.v 15), (.v 16), (.v 17), (.v 18), (.v 19), (.v 20), (.v 21)] 23 1)
 (.item (.pre (.kb true) 26 [(.v 0), (.v 1), (.v 2), (.v 3), (.v 4), (.v 5), (.v 6), (.v 7), (.v 8), (.v 9), (.v 10), (.v 11), (.v 12), (.v 13), (.v 14), (.v 15), (.v 16), (.v 17), (.v 18), (.v 19), (.v 20), (.v 21)])
 (.ite (.op1 .not (.op2 .eq (.v 23) (.ki (0))))
 (.leaf [(I64, (.ki (0))), (I64, (.ki (0))), (I64, (.ki (0))), (I64, (.ki (0))), (I64, (.ki (0))), (I64, (.ki (0))), (I64, (.ki (0))), (I64, (.ki (0))), (I64, (.ki (0))), (I64, (.ki (0))), (I64, (.ki (0))), ((.sl [(.int .i64), (.int .i64)]), .lnil), (I64, (.ki (0))), (I64, (.ki (0))), (I64, (.ki (0))), (I64, (.ki (0))), (I64, (.ki (0))), (I64, (.ki (0))), (I64, (.ki (0))), (I64, (.ki (0))), (I64, (.ki (0))), (I64, (.ki (0))), (I64, (.ki (230)))])
 (.item (.bind 64 [(.op2 .cat (.op2 .rcons (.v 22) .rnil) .lnil)] 24 1)
 (.item (.pre (.kb true) 64 [(.op2 .cat (.op2 .rcons (.v 22) .rnil) .lnil)])
 (.ite (.op1 .not (.v 24))
  (.leaf [(I64, (.ki (0))), (I64, (.ki (0))), (I64, (.ki (0))), (I64, (.ki (0))), (I64, (.ki (0))), (I64, (.ki (0))), (I64, (.ki (0))), (I64, (.ki (0))), (I64, (.ki (0))), (I64, (.ki (0))), (I64, (.ki (0))), ((.sl [(.int .i64), (.int .i64)]), .lnil), (I64, (.ki (0))), (I64, (.ki (0))), (I64, (.ki (0))), (I64, (.ki (0))), (I64, (.ki (0))), (I64, (.ki (0))), (I64, (.ki (0))), (I64, (.ki (0))), (I64, (.ki (0))), (I64, (.ki (0))), (I64, (.ki (2)))])
  (.item (.bind 82 [(.v 0), (.v 1), (.v 2), (.v 3), (.v 4), (.v 5), (.v 6), (.v 7), (.v 8), (.v 9), (.v 10), (.v 11), (.v 12), (.v 13), (.v 14), (.v 15), (.v 16), (.v 17), (.v 18), (.v 19), (.v 20), (.v 21)] 25 22)
  (.item (.pre (.kb true) 82 [(.v 0), (.v 1), (.v 2), (.v 3), (.v 4), (.v 5), (.v 6), (.v 7), (.v 8), (.v 9), (.v 10), (.v 11), (.v 12), (.v 13), (.v 14), (.v 15), (.v 16), (.v 17), (.v 18), (.v 19), (.v 20), (.v 21)])
  (.leaf [(I64, (.v 25)), (I64, (.v 26)), (I64, (.v 27)), (I64, (.v 28)), (I64, (.v 29)), (I64, (.v 30)), (I64, (.v 31)), (I64, (.v 32)), (I64, (.v 33)), (I64, (.v 34)), (I64, (.v 35)), ((.sl [(.int .i64), (.int .i64)]), (.v 36)), (I64, (.v 37)), (I64, (.v 38)), (I64, (.v 39)), (I64, (.v 40)), (I64, (.v 41)), (I64, (.v 42)), (I64, (.v 43)), (I64, (.v 44)), (I64, (.v 45)), (I64, (.v 46)), (I64, (.ki (0)))])))))))))
theorem c82079 : compile Go.Proofs.Try.prog [s26, s64, s82] Go.Proofs.Try.f79 s82079.params s82079.results = some t82079 := by kernel_rfl
def L82079 : List (Nat × (List LV → List LV)) := [(26, F26), (64, F64), (82, F82)]
def M82079 : List (Nat × (List LV → Prop)) := [(64, R64)]
theorem h82079 : ∀ sg, sg ∈ [s26, s64, s82] → ConOk Go.Proofs.Try.prog (ap L82079) (apR M82079) sg := by
  intro sg h
  simp only [List.mem_cons, List.not_mem_nil, or_false] at h
  rcases h with rfl | rfl | rfl
  · exact k26.to rfl rfl
  · exact k64.to rfl rfl
  · exact k82.to rfl rfl
set_option maxRecDepth 100000 in
theorem k82079 : Kon Go.Proofs.Try.prog s82079 F82079 (fun _ => True) := by
  refine con_ok h82079 (by kernel_rfl) Go.Proofs.Try.func79 (by kernel_rfl) c82079 ?_
  intro ls _ _
  simp only [t82079, Tr.den, L82079, M82079, ap, apR, if_true, Nat.reduceEqDiff, if_false, List.map_cons, List.map_nil, E.den, O1.ev, ev_add, ev_sub, ev_mul, ev_quo, ev_rem, ev_mx, ev_mn, ev_shl, ev_shr, ev_bit, ev_lt, ev_le, ev_eq, ev_and, ev_or, ev_eqb, ev_cat, ev_rcons, ev_rd, SameL, Col.same]
  simp only [setE_lt, setE_hit, Nat.reduceLT, Nat.reduceLeDiff, Nat.reduceAdd, Nat.reduceSub]
  simp only [LV.Ll, List.headD_cons, List.cons_append, List.nil_append]
  simp only [E26, E64a]
  simp only [cok22 (outOf ls)]
  simp only [LV.Ii, LV.Bb, LV.Ll]
  simp only [F80079, F82079, F32, F35, F81079]
  refine ⟨fun _ => trivial, ?_⟩
  by_cases hok : CubicOk (outOf ls)
  case neg =>
    simp only [if_neg hok]
    rw [if_pos (by simp [tf_d])]
    simp only [out22, out22b, out22z, out22zb, zeroF, fset, fell, Nat.reduceEqDiff, if_true, if_false, setE_lt, setE_hit, Nat.reduceLT, Nat.reduceLeDiff, Nat.reduceAdd, Nat.reduceSub, outOf_z, outOf_s, LV.Ii, LV.Bb, LV.Ll, and_true, and_self, true_and]
  simp only [if_pos hok]
  rw [if_neg (by simp [tf_d])]
  refine ⟨fun _ => R64a _, ?_⟩
  by_cases hb : SizeI (outOf ls 22).I
  case neg =>
    rw [if_pos (by simp only [Bool.or_eq_true, Bool.and_eq_true, Bool.not_eq_true', tf_t, tf_f, Bool.or_eq_false_iff, Bool.and_eq_false_iff]; exact hb)]
    simp only [if_neg hb]
    simp only [out22, out22b, out22z, out22zb, zeroF, fset, fell, Nat.reduceEqDiff, if_true, if_false, setE_lt, setE_hit, Nat.reduceLT, Nat.reduceLeDiff, Nat.reduceAdd, Nat.reduceSub, outOf_z, outOf_s, LV.Ii, LV.Bb, LV.Ll, and_true, and_self, true_and]
  rw [if_neg (by simp only [Bool.or_eq_true, Bool.and_eq_true, Bool.not_eq_true', tf_t, tf_f, Bool.or_eq_false_iff, Bool.and_eq_false_iff]; exact fun h => h hb)]
  simp only [if_pos hb]
  refine ⟨fun _ => trivial, ?_⟩
  obtain ⟨w1, w2, w3, w4, w5⟩ := fell_facts hok
  simp only [F82, t82, Tr.ev, L82, ap, if_true, Nat.reduceEqDiff, if_false, List.map_cons, List.map_nil, E.den, O1.ev, ev_add, ev_sub, ev_mul, ev_quo, ev_rem, ev_mx, ev_mn, ev_shl, ev_shr, ev_bit, ev_lt, ev_le, ev_eq, ev_and, ev_or, ev_eqb, ev_cat, ev_rcons, ev_rd]
  simp only [F80, t80, Tr.ev, L80, ap, if_true, Nat.reduceEqDiff, if_false, List.map_cons, List.map_nil, E.den, O1.ev, ev_add, ev_sub, ev_mul, ev_quo, ev_rem, ev_mx, ev_mn, ev_shl, ev_shr, ev_bit, ev_lt, ev_le, ev_eq, ev_and, ev_or, ev_eqb, ev_cat, ev_rcons, ev_rd]
  simp only [setE_lt, setE_hit, Nat.reduceLT, Nat.reduceLeDiff, Nat.reduceAdd, Nat.reduceSub]
  simp only [outOf_z, outOf_s, LV.Ii, LV.Bb, LV.Ll, w1, w2, w3, tf_t]
  simp only [out22, out22b, out22z, out22zb, zeroF, fset, fell, Nat.reduceEqDiff, if_true, if_false, setE_lt, setE_hit, Nat.reduceLT, Nat.reduceLeDiff, Nat.reduceAdd, Nat.reduceSub, outOf_z, outOf_s, LV.Ii, LV.Bb, LV.Ll, and_true, and_self, true_and]
/-! tideway/cubic.Loss -/
def s32 : Sig := ⟨32, 32, [.agg [I64, I64, I64, I64, I64, I64, I64, I64, I64, I64, I64, (.sl [(.int .i64), (.int .i64)]), I64, I64, I64, I64, I64, I64, I64, I64, I64, I64], .col I64], [.agg [I64, I64, I64, I64, I64, I64, I64, I64, I64, I64, I64, (.sl [(.int .i64), (.int .i64)]), I64, I64, I64, I64, I64, I64, I64, I64, I64, I64], .col I64]⟩
def t32 : Tr (List (Col × E)) :=
 (.item (.bind 80079 [(.v 0), (.v 1), (.v 2), (.v 3), (.v 4), (.v 5), (.v 6), (.v 7), (.v 8), (.v 9), (.v 10), (.v 11), (.v 12), (.v 13), (.v 14), (.v 15), (.v 16), (.v 17), (.v 18), (.v 19), (.v 20), (.v 21), (.v 22)] 23 23)
 (.item (.pre (.kb true) 80079 [(.v 0), (.v 1), (.v 2), (.v 3), (.v 4), (.v 5), (.v 6), (.v 7), (.v 8), (.v 9), (.v 10), (.v 11), (.v 12), (.v 13), (.v 14), (.v 15), (.v 16), (.v 17), (.v 18), (.v 19), (.v 20), (.v 21), (.v 22)])
 (.leaf [(I64, (.v 23)), (I64, (.v 24)), (I64, (.v 25)), (I64, (.v 26)), (I64, (.v 27)), (I64, (.v 28)), (I64, (.v 29)), (I64, (.v 30)), (I64, (.v 31)), (I64, (.v 32)), (I64, (.v 33)), ((.sl [(.int .i64), (.int .i64)]), (.v 34)), (I64, (.v 35)), (I64, (.v 36)), (I64, (.v 37)), (I64, (.v 38)), (I64, (.v 39)), (I64, (.v 40)), (I64, (.v 41)), (I64, (.v 42)), (I64, (.v 43)), (I64, (.v 44)), (I64, (.v 45))])))
theorem c32 : compile Go.Proofs.Try.prog [s80079] Go.Proofs.Try.f32 s32.params s32.results = some t32 := by kernel_rfl
def L32 : List (Nat × (List LV → List LV)) := [(80079, F80079)]
def M32 : List (Nat × (List LV → Prop)) := []
theorem h32 : ∀ sg, sg ∈ [s80079] → ConOk Go.Proofs.Try.prog (ap L32) (apR M32) sg := by
  intro sg h
  simp only [List.mem_cons, List.not_mem_nil, or_false] at h
  rcases h with rfl
  · exact k80079.to rfl rfl
set_option maxRecDepth 100000 in
theorem k32 : Kon Go.Proofs.Try.prog s32 F32 (fun _ => True) := by
  refine con_ok h32 (by kernel_rfl) Go.Proofs.Try.func32 (by kernel_rfl) c32 ?_
  intro ls _ _
  generalize hG : F32 ls = G
  simp only [t32, Tr.den, L32, M32, ap, apR, if_true, Nat.reduceEqDiff, if_false, List.map_cons, List.map_nil, E.den, O1.ev, ev_add, ev_sub, ev_mul, ev_quo, ev_rem, ev_mx, ev_mn, ev_shl, ev_shr, ev_bit, ev_lt, ev_le, ev_eq, ev_and, ev_or, ev_eqb, ev_cat, ev_rcons, ev_rd, SameL, Col.same]
  simp only [setE_lt, setE_hit, Nat.reduceLT, Nat.reduceLeDiff, Nat.reduceAdd, Nat.reduceSub]
  have e : F32 [outOf ls 0, outOf ls 1, outOf ls 2, outOf ls 3, outOf ls 4, outOf ls 5, outOf ls 6, outOf ls 7, outOf ls 8, outOf ls 9, outOf ls 10, outOf ls 11, outOf ls 12, outOf ls 13, outOf ls 14, outOf ls 15, outOf ls 16, outOf ls 17, outOf ls 18, outOf ls 19, outOf ls 20, outOf ls 21, outOf ls 22] = G := hG
  simp only [F80079, F82079, e, implies_true, true_and, and_self]
/-! tideway/cubic.Timeout -/
def s35 : Sig := ⟨35, 35, [.agg [I64, I64, I64, I64, I64, I64, I64, I64, I64, I64, I64, (.sl [(.int .i64), (.int .i64)]), I64, I64, I64, I64, I64, I64, I64, I64, I64, I64], .col I64], [.agg [I64, I64, I64, I64, I64, I64, I64, I64, I64, I64, I64, (.sl [(.int .i64), (.int .i64)]), I64, I64, I64, I64, I64, I64, I64, I64, I64, I64], .col I64]⟩
def t35 : Tr (List (Col × E)) :=
 (.item (.bind 82079 [(.v 0), (.v 1), (.v 2), (.v 3), (.v 4), (.v 5), (.v 6), (.v 7), (.v 8), (.v 9), (.v 10), (.v 11), (.v 12), (.v 13), (.v 14), (.v 15), (.v 16), (.v 17), (.v 18), (.v 19), (.v 20), (.v 21), (.v 22)] 23 23)
 (.item (.pre (.kb true) 82079 [(.v 0), (.v 1), (.v 2), (.v 3), (.v 4), (.v 5), (.v 6), (.v 7), (.v 8), (.v 9), (.v 10), (.v 11), (.v 12), (.v 13), (.v 14), (.v 15), (.v 16), (.v 17), (.v 18), (.v 19), (.v 20), (.v 21), (.v 22)])
 (.leaf [(I64, (.v 23)), (I64, (.v 24)), (I64, (.v 25)), (I64, (.v 26)), (I64, (.v 27)), (I64, (.v 28)), (I64, (.v 29)), (I64, (.v 30)), (I64, (.v 31)), (I64, (.v 32)), (I64, (.v 33)), ((.sl [(.int .i64), (.int .i64)]), (.v 34)), (I64, (.v 35)), (I64, (.v 36)), (I64, (.v 37)), (I64, (.v 38)), (I64, (.v 39)), (I64, (.v 40)), (I64, (.v 41)), (I64, (.v 42)), (I64, (.v 43)), (I64, (.v 44)), (I64, (.v 45))])))
theorem c35 : compile Go.Proofs.Try.prog [s82079] Go.Proofs.Try.f35 s35.params s35.results = some t35 := by kernel_rfl
def L35 : List (Nat × (List LV → List LV)) := [(82079, F82079)]
def M35 : List (Nat × (List LV → Prop)) := []
theorem h35 : ∀ sg, sg ∈ [s82079] → ConOk Go.Proofs.Try.prog (ap L35) (apR M35) sg := by
  intro sg h
  simp only [List.mem_cons, List.not_mem_nil, or_false] at h
  rcases h with rfl
  · exact k82079.to rfl rfl
set_option maxRecDepth 100000 in
theorem k35 : Kon Go.Proofs.Try.prog s35 F35 (fun _ => True) := by
  refine con_ok h35 (by kernel_rfl) Go.Proofs.Try.func35 (by kernel_rfl) c35 ?_
  intro ls _ _
  generalize hG : F35 ls = G
  simp only [t35, Tr.den, L35, M35, ap, apR, if_true, Nat.reduceEqDiff, if_false, List.map_cons, List.map_nil, E.den, O1.ev, ev_add, ev_sub, ev_mul, ev_quo, ev_rem, ev_mx, ev_mn, ev_shl, ev_shr, ev_bit, ev_lt, ev_le, ev_eq, ev_and, ev_or, ev_eqb, ev_cat, ev_rcons, ev_rd, SameL, Col.same]
  simp only [setE_lt, setE_hit, Nat.reduceLT, Nat.reduceLeDiff, Nat.reduceAdd, Nat.reduceSub]
  have e : F35 [outOf ls 0, outOf ls 1, outOf ls 2, outOf ls 3, outOf ls 4, outOf ls 5, outOf ls 6, outOf ls 7, outOf ls 8, outOf ls 9, outOf ls 10, outOf ls 11, outOf ls 12, outOf ls 13, outOf ls 14, outOf ls 15, outOf ls 16, outOf ls 17, outOf ls 18, outOf ls 19, outOf ls 20, outOf ls 21, outOf ls 22] = G := hG
  simp only [F80079, F82079, e, implies_true, true_and, and_self]
/-! tideway/cubic.Done -/
def s33 : Sig := ⟨33, 33, [.agg [I64, I64, I64, I64, I64, I64, I64, I64, I64, I64, I64, (.sl [(.int .i64), (.int .i64)]), I64, I64, I64, I64, I64, I64, I64, I64, I64, I64]], [.agg [I64, I64, I64, I64, I64, I64, I64, I64, I64, I64, I64, (.sl [(.int .i64), (.int .i64)]), I64, I64, I64, I64, I64, I64, I64, I64, I64, I64], .col I64]⟩
def t33 : Tr (List (Col × E)) :=
 (.item (.bind 81079 [(.v 0), (.v 1), (.v 2), (.v 3), (.v 4), (.v 5), (.v 6), (.v 7), (.v 8), (.v 9), (.v 10), (.v 11), (.v 12), (.v 13), (.v 14), (.v 15), (.v 16), (.v 17), (.v 18), (.v 19), (.v 20), (.v 21), (.ki (0))] 22 23)
 (.item (.pre (.kb true) 81079 [(.v 0), (.v 1), (.v 2), (.v 3), (.v 4), (.v 5), (.v 6), (.v 7), (.v 8), (.v 9), (.v 10), (.v 11), (.v 12), (.v 13), (.v 14), (.v 15), (.v 16), (.v 17), (.v 18), (.v 19), (.v 20), (.v 21), (.ki (0))])
 (.leaf [(I64, (.v 22)), (I64, (.v 23)), (I64, (.v 24)), (I64, (.v 25)), (I64, (.v 26)), (I64, (.v 27)), (I64, (.v 28)), (I64, (.v 29)), (I64, (.v 30)), (I64, (.v 31)), (I64, (.v 32)), ((.sl [(.int .i64), (.int .i64)]), (.v 33)), (I64, (.v 34)), (I64, (.v 35)), (I64, (.v 36)), (I64, (.v 37)), (I64, (.v 38)), (I64, (.v 39)), (I64, (.v 40)), (I64, (.v 41)), (I64, (.v 42)), (I64, (.v 43)), (I64, (.v 44))])))
theorem c33 : compile Go.Proofs.Try.prog [s81079] Go.Proofs.Try.f33 s33.params s33.results = some t33 := by kernel_rfl
def L33 : List (Nat × (List LV → List LV)) := [(81079, F81079)]
def M33 : List (Nat × (List LV → Prop)) := []
theorem h33 : ∀ sg, sg ∈ [s81079] → ConOk Go.Proofs.Try.prog (ap L33) (apR M33) sg := by
  intro sg h
  simp only [List.mem_cons, List.not_mem_nil, or_false] at h
  rcases h with rfl
  · exact k81079.to rfl rfl
set_option maxRecDepth 100000 in
theorem k33 : Kon Go.Proofs.Try.prog s33 F33 (fun _ => True) := by
  refine con_ok h33 (by kernel_rfl) Go.Proofs.Try.func33 (by kernel_rfl) c33 ?_
  intro ls _ _
  simp only [t33, Tr.den, L33, M33, ap, apR, if_true, Nat.reduceEqDiff, if_false, List.map_cons, List.map_nil, E.den, O1.ev, ev_add, ev_sub, ev_mul, ev_quo, ev_rem, ev_mx, ev_mn, ev_shl, ev_shr, ev_bit, ev_lt, ev_le, ev_eq, ev_and, ev_or, ev_eqb, ev_cat, ev_rcons, ev_rd, SameL, Col.same]
  simp only [setE_lt, setE_hit, Nat.reduceLT, Nat.reduceLeDiff, Nat.reduceAdd, Nat.reduceSub]
  have e : F81079 ([outOf ls 0, outOf ls 1, outOf ls 2, outOf ls 3, outOf ls 4, outOf ls 5, outOf ls 6, outOf ls 7, outOf ls 8, outOf ls 9, outOf ls 10, outOf ls 11, outOf ls 12, outOf ls 13, outOf ls 14, outOf ls 15, outOf ls 16, outOf ls 17, outOf ls 18, outOf ls 19, outOf ls 20, outOf ls 21, .i 0]) = F33 ls := by
    unfold F81079 F33
    simp only [cok23 (outOf ls), outOf_z, outOf_s, LV.Ii]
    rw [if_pos (show SizeI 0 from ⟨by omega, by omega⟩)]
    rfl
  simp only [e, implies_true, true_and, and_self]
/-! tideway/tidewayref16.Loss -/
def s34 : Sig := ⟨34, 34, [.agg [I64, I64, I64, I64, I64, I64, I64, I64, I64, I64, I64, (.sl [(.int .i64), (.int .i64)]), I64, I64, I64, I64, I64, I64, I64, I64, I64, I64], .col I64], [.agg [I64, I64, I64, I64, I64, I64, I64, I64, I64, I64, I64, (.sl [(.int .i64), (.int .i64)]), I64, I64, I64, I64, I64, I64, I64, I64, I64, I64], .col I64]⟩
def t34 : Tr (List (Col × E)) :=
 (.item (.bind 27 [(.v 0), (.v 1), (.v 2), (.v 3), (.v 4), (.v 5), (.v 6), (.v 7), (.v 8), (.v 9), (.v 10), (.v 11), (.v 12), (.v 13), (.v 14), (.v 15), (.v 16), (.v 17), (.v 18), (.v 19), (.v 20), (.v 21)] 23 1)
 (.item (.pre (.kb true) 27 [(.v 0), (.v 1), (.v 2), (.v 3), (.v 4), (.v 5), (.v 6), (.v 7), (.v 8), (.v 9), (.v 10), (.v 11), (.v 12), (.v 13), (.v 14), (.v 15), (.v 16), (.v 17), (.v 18), (.v 19), (.v 20), (.v 21)])
 (.ite (.op1 .not (.op2 .eq (.v 23) (.ki (0))))
 (.leaf [(I64, (.ki (0))), (I64, (.ki (0))), (I64, (.ki (0))), (I64, (.ki (0))), (I64, (.ki (0))), (I64, (.ki (0))), (I64, (.ki (0))), (I64, (.ki (0))), (I64, (.ki (0))), (I64, (.ki (0))), (I64, (.ki (0))), ((.sl [(.int .i64), (.int .i64)]), .lnil), (I64, (.ki (0))), (I64, (.ki (0))), (I64, (.ki (0))), (I64, (.ki (0))), (I64, (.ki (0))), (I64, (.ki (0))), (I64, (.ki (0))), (I64, (.ki (0))), (I64, (.ki (0))), (I64, (.ki (0))), (I64, (.ki (230)))])
 (.item (.bind 66 [(.v 22)] 24 1)
 (.item (.pre (.kb true) 66 [(.v 22)])
 (.ite (.op1 .not (.v 24))
  (.leaf [(I64, (.ki (0))), (I64, (.ki (0))), (I64, (.ki (0))), (I64, (.ki (0))), (I64, (.ki (0))), (I64, (.ki (0))), (I64, (.ki (0))), (I64, (.ki (0))), (I64, (.ki (0))), (I64, (.ki (0))), (I64, (.ki (0))), ((.sl [(.int .i64), (.int .i64)]), .lnil), (I64, (.ki (0))), (I64, (.ki (0))), (I64, (.ki (0))), (I64, (.ki (0))), (I64, (.ki (0))), (I64, (.ki (0))), (I64, (.ki (0))), (I64, (.ki (0))), (I64, (.ki (0))), (I64, (.ki (0))), (I64, (.ki (2)))])
  (.leaf [(I64, (.v 0)), (I64, (.v 1)), (I64, (.v 2)), (I64, (.op2 .mx (.op1 (.wrap .i64) (.op2 .quo (.op1 (.wrap .i64) (.op2 .mul (.v 2) (.ki (7)))) (.ki (10)))) (.op1 (.wrap .i64) (.op2 .mul (.ki (2)) (.v 1))))), (I64, (.ki (0))), (I64, (.iteI (.op2 .lt (.v 2) (.v 5)) (.op1 (.wrap .i64) (.op2 .quo (.op1 (.wrap .i64) (.op2 .mul (.v 2) (.ki (17)))) (.ki (20)))) (.v 2))), (I64, (.ki (-1))), (I64, (.v 7)), (I64, (.v 8)), (I64, (.v 9)), (I64, (.v 10)), ((.sl [(.int .i64), (.int .i64)]), (.v 11)), (I64, (.v 12)), (I64, (.v 13)), (I64, (.v 14)), (I64, (.v 15)), (I64, (.v 16)), (I64, (.v 17)), (I64, (.v 18)), (I64, (.v 19)), (I64, (.v 20)), (I64, (.v 21)), (I64, (.ki (0)))])))))))
theorem c34 : compile Go.Proofs.Try.prog [s27, s66] Go.Proofs.Try.f34 s34.params s34.results = some t34 := by kernel_rfl
def L34 : List (Nat × (List LV → List LV)) := [(27, F27), (66, F66)]
def M34 : List (Nat × (List LV → Prop)) := []
theorem h34 : ∀ sg, sg ∈ [s27, s66] → ConOk Go.Proofs.Try.prog (ap L34) (apR M34) sg := by
  intro sg h
  simp only [List.mem_cons, List.not_mem_nil, or_false] at h
  rcases h with rfl | rfl
  · exact k27.to rfl rfl
  · exact k66.to rfl rfl
set_option maxRecDepth 100000 in
theorem k34 : Kon Go.Proofs.Try.prog s34 F34 (fun _ => True) := by
  refine con_ok h34 (by kernel_rfl) Go.Proofs.Try.func34 (by kernel_rfl) c34 ?_
  intro ls _ _
  simp only [t34, Tr.den, L34, M34, ap, apR, if_true, Nat.reduceEqDiff, if_false, List.map_cons, List.map_nil, E.den, O1.ev, ev_add, ev_sub, ev_mul, ev_quo, ev_rem, ev_mx, ev_mn, ev_shl, ev_shr, ev_bit, ev_lt, ev_le, ev_eq, ev_and, ev_or, ev_eqb, ev_cat, ev_rcons, ev_rd, SameL, Col.same]
  simp only [setE_lt, setE_hit, Nat.reduceLT, Nat.reduceLeDiff, Nat.reduceAdd, Nat.reduceSub]
  simp only [E26, E66']
  simp only [cok22 (outOf ls)]
  simp only [LV.Ii, LV.Bb, LV.Ll]
  simp only [F34, F32]
  refine ⟨fun _ => trivial, ?_⟩
  by_cases hok : CubicOk (outOf ls)
  case neg =>
    simp only [if_neg hok]
    rw [if_pos (by simp [tf_d])]
    simp only [out22, out22b, out22z, out22zb, zeroF, fset, fell, Nat.reduceEqDiff, if_true, if_false, setE_lt, setE_hit, Nat.reduceLT, Nat.reduceLeDiff, Nat.reduceAdd, Nat.reduceSub, outOf_z, outOf_s, LV.Ii, LV.Bb, LV.Ll, and_true, and_self, true_and]
  simp only [if_pos hok]
  rw [if_neg (by simp [tf_d])]
  refine ⟨fun _ => trivial, ?_⟩
  by_cases hb : SizeI (outOf ls 22).I
  case neg =>
    rw [if_pos (by simp only [Bool.or_eq_true, Bool.and_eq_true, Bool.not_eq_true', tf_t, tf_f, Bool.or_eq_false_iff, Bool.and_eq_false_iff]; exact hb)]
    simp only [if_neg hb]
    simp only [out22, out22b, out22z, out22zb, zeroF, fset, fell, Nat.reduceEqDiff, if_true, if_false, setE_lt, setE_hit, Nat.reduceLT, Nat.reduceLeDiff, Nat.reduceAdd, Nat.reduceSub, outOf_z, outOf_s, LV.Ii, LV.Bb, LV.Ll, and_true, and_self, true_and]
  rw [if_neg (by simp only [Bool.or_eq_true, Bool.and_eq_true, Bool.not_eq_true', tf_t, tf_f, Bool.or_eq_false_iff, Bool.and_eq_false_iff]; exact fun h => h hb)]
  simp only [if_pos hb]
  obtain ⟨w1, w2, w3, w4, w5⟩ := fell_facts hok
  simp only [w1, w4, w5, tf_t]
  simp only [out22, out22b, out22z, out22zb, zeroF, fset, fell, Nat.reduceEqDiff, if_true, if_false, setE_lt, setE_hit, Nat.reduceLT, Nat.reduceLeDiff, Nat.reduceAdd, Nat.reduceSub, outOf_z, outOf_s, LV.Ii, LV.Bb, LV.Ll, and_true, and_self, true_and]
  exact Int.max_comm _ _
/-! tideway/tidewayref16.Timeout -/
def s36 : Sig := ⟨36, 36, [.agg [I64, I64, I64, I64, I64, I64, I64, I64, I64, I64, I64, (.sl [(.int .i64), (.int .i64)]), I64, I64, I64, I64, I64, I64, I64, I64, I64, I64], .col I64], [.agg [I64, I64, I64, I64, I64, I64, I64, I64, I64, I64, I64, (.sl [(.int .i64), (.int .i64)]), I64, I64, I64, I64, I64, I64, I64, I64, I64, I64], .col I64]⟩
def t36 : Tr (List (Col × E)) :=
 (.item (.bind 34 [(.v 0), (.v 1), (.v 2), (.v 3), (.v 4), (.v 5), (.v 6), (.v 7), (.v 8), (.v 9), (.v 10), (.v 11), (.v 12), (.v 13), (.v 14), (.v 15), (.v 16), (.v 17), (.v 18), (.v 19), (.v 20), (.v 21), (.v 22)] 23 23)
 (.item (.pre (.kb true) 34 [(.v 0), (.v 1), (.v 2), (.v 3), (.v 4), (.v 5), (.v 6), (.v 7), (.v 8), (.v 9), (.v 10), (.v 11), (.v 12), (.v 13), (.v 14), (.v 15), (.v 16), (.v 17), (.v 18), (.v 19), (.v 20), (.v 21), (.v 22)])
 (.ite (.op1 .not (.op2 .eq (.v 45) (.ki (0))))
 (.leaf [(I64, (.ki (0))), (I64, (.ki (0))), (I64, (.ki (0))), (I64, (.ki (0))), (I64, (.ki (0))), (I64, (.ki (0))), (I64, (.ki (0))), (I64, (.ki (0))), (I64, (.ki (0))), (I64, (.ki (0))), (I64, (.ki (0))), ((.sl [(.int .i64), (.int .i64)]), .lnil), (I64, (.ki (0))), (I64, (.ki (0))), (I64, (.ki (0))), (I64, (.ki (0))), (I64, (.ki (0))), (I64, (.ki (0))), (I64, (.ki (0))), (I64, (.ki (0))), (I64, (.ki (0))), (I64, (.ki (0))), (I64, (.v 45))])
 (.leaf [(I64, (.v 23)), (I64, (.v 24)), (I64, (.v 24)), (I64, (.v 26)), (I64, (.v 27)), (I64, (.v 28)), (I64, (.v 29)), (I64, (.v 30)), (I64, (.v 31)), (I64, (.v 32)), (I64, (.v 33)), ((.sl [(.int .i64), (.int .i64)]), (.v 34)), (I64, (.v 35)), (I64, (.v 36)), (I64, (.v 37)), (I64, (.v 38)), (I64, (.v 39)), (I64, (.v 40)), (I64, (.v 41)), (I64, (.v 42)), (I64, (.v 43)), (I64, (.v 44)), (I64, (.ki (0)))]))))
theorem c36 : compile Go.Proofs.Try.prog [s34] Go.Proofs.Try.f36 s36.params s36.results = some t36 := by kernel_rfl
def L36 : List (Nat × (List LV → List LV)) := [(34, F34)]
def M36 : List (Nat × (List LV → Prop)) := []
theorem h36 : ∀ sg, sg ∈ [s34] → ConOk Go.Proofs.Try.prog (ap L36) (apR M36) sg := by
  intro sg h
  simp only [List.mem_cons, List.not_mem_nil, or_false] at h
  rcases h with rfl
  · exact k34.to rfl rfl
set_option maxRecDepth 100000 in
theorem k36 : Kon Go.Proofs.Try.prog s36 F36 (fun _ => True) := by
  refine con_ok h36 (by kernel_rfl) Go.Proofs.Try.func36 (by kernel_rfl) c36 ?_
  intro ls _ _
  simp only [t36, Tr.den, L36, M36, ap, apR, if_true, Nat.reduceEqDiff, if_false, List.map_cons, List.map_nil, E.den, O1.ev, ev_add, ev_sub, ev_mul, ev_quo, ev_rem, ev_mx, ev_mn, ev_shl, ev_shr, ev_bit, ev_lt, ev_le, ev_eq, ev_and, ev_or, ev_eqb, ev_cat, ev_rcons, ev_rd, SameL, Col.same]
  simp only [setE_lt, setE_hit, Nat.reduceLT, Nat.reduceLeDiff, Nat.reduceAdd, Nat.reduceSub]
  simp only [LV.Ii, LV.Bb, LV.Ll]
  simp only [F34, F36, F32, F35, cok23 (outOf ls), outOf_z, outOf_s]
  have e : ∀ i, i < 22 → fell (outOf [outOf ls 0, outOf ls 1, outOf ls 2, outOf ls 3, outOf ls 4, outOf ls 5, outOf ls 6, outOf ls 7, outOf ls 8, outOf ls 9, outOf ls 10, outOf ls 11, outOf ls 12, outOf ls 13, outOf ls 14, outOf ls 15, outOf ls 16, outOf ls 17, outOf ls 18, outOf ls 19, outOf ls 20, outOf ls 21, outOf ls 22]) i = fell (outOf ls) i := by
    intro i hi
    unfold fell
    rcases i with _ | _ | _ | _ | _ | _ | _ | _ | _ | _ | _ | _ | _ | _ | _ | _ | _ | _ | _ | _ | _ | _ | i
    all_goals first | rfl | omega
  refine ⟨fun _ => trivial, ?_⟩
  by_cases hok : CubicOk (outOf ls)
  case neg =>
    simp only [if_neg hok]
    rw [if_pos (by simp only [out22zb, setE_lt, setE_hit, Nat.reduceLT, Nat.reduceLeDiff, Nat.reduceAdd, Nat.reduceSub, outOf_z, outOf_s, LV.Ii]; simp [tf_d])]
    simp only [out22, out22b, out22z, out22zb, zeroF, fset, fell, Nat.reduceEqDiff, if_true, if_false, setE_lt, setE_hit, Nat.reduceLT, Nat.reduceLeDiff, Nat.reduceAdd, Nat.reduceSub, outOf_z, outOf_s, LV.Ii, LV.Bb, LV.Ll, and_true, and_self, true_and]
  simp only [if_pos hok]
  by_cases hb : SizeI (outOf ls 22).I
  case neg =>
    simp only [if_neg hb]
    rw [if_pos (by simp only [out22zb, setE_lt, setE_hit, Nat.reduceLT, Nat.reduceLeDiff, Nat.reduceAdd, Nat.reduceSub, outOf_z, outOf_s, LV.Ii]; simp [tf_d])]
    simp only [out22, out22b, out22z, out22zb, zeroF, fset, fell, Nat.reduceEqDiff, if_true, if_false, setE_lt, setE_hit, Nat.reduceLT, Nat.reduceLeDiff, Nat.reduceAdd, Nat.reduceSub, outOf_z, outOf_s, LV.Ii, LV.Bb, LV.Ll, and_true, and_self, true_and]
  simp only [if_pos hb]
  rw [if_neg (by simp only [out22b, setE_lt, setE_hit, Nat.reduceLT, Nat.reduceLeDiff, Nat.reduceAdd, Nat.reduceSub, outOf_z, outOf_s, LV.Ii]; simp [tf_d])]
  simp only [out22, e, setE_lt, setE_hit, Nat.reduceLT, Nat.reduceLeDiff, Nat.reduceAdd, Nat.reduceSub]
  simp only [out22, out22b, out22z, out22zb, zeroF, fset, fell, Nat.reduceEqDiff, if_true, if_false, setE_lt, setE_hit, Nat.reduceLT, Nat.reduceLeDiff, Nat.reduceAdd, Nat.reduceSub, outOf_z, outOf_s, LV.Ii, LV.Bb, LV.Ll, and_true, and_self, true_and]
/-! tideway/tidewayref16.Done -/
def s37 : Sig := ⟨37, 37, [.agg [I64, I64, I64, I64, I64, I64, I64, I64, I64, I64, I64, (.sl [(.int .i64), (.int .i64)]), I64, I64, I64, I64, I64, I64, I64, I64, I64, I64]], [.agg [I64, I64, I64, I64, I64, I64, I64, I64, I64, I64, I64, (.sl [(.int .i64), (.int .i64)]), I64, I64, I64, I64, I64, I64, I64, I64, I64, I64], .col I64]⟩
def t37 : Tr (List (Col × E)) :=
 (.item (.bind 27 [(.v 0), (.v 1), (.v 2), (.v 3), (.v 4), (.v 5), (.v 6), (.v 7), (.v 8), (.v 9), (.v 10), (.v 11), (.v 12), (.v 13), (.v 14), (.v 15), (.v 16), (.v 17), (.v 18), (.v 19), (.v 20), (.v 21)] 22 1)
 (.item (.pre (.kb true) 27 [(.v 0), (.v 1), (.v 2), (.v 3), (.v 4), (.v 5), (.v 6), (.v 7), (.v 8), (.v 9), (.v 10), (.v 11), (.v 12), (.v 13), (.v 14), (.v 15), (.v 16), (.v 17), (.v 18), (.v 19), (.v 20), (.v 21)])
 (.ite (.op1 .not (.op2 .eq (.v 22) (.ki (0))))
 (.leaf [(I64, (.ki (0))), (I64, (.ki (0))), (I64, (.ki (0))), (I64, (.ki (0))), (I64, (.ki (0))), (I64, (.ki (0))), (I64, (.ki (0))), (I64, (.ki (0))), (I64, (.ki (0))), (I64, (.ki (0))), (I64, (.ki (0))), ((.sl [(.int .i64), (.int .i64)]), .lnil), (I64, (.ki (0))), (I64, (.ki (0))), (I64, (.ki (0))), (I64, (.ki (0))), (I64, (.ki (0))), (I64, (.ki (0))), (I64, (.ki (0))), (I64, (.ki (0))), (I64, (.ki (0))), (I64, (.ki (0))), (I64, (.ki (230)))])
 (.leaf [(I64, (.v 0)), (I64, (.v 1)), (I64, (.v 3)), (I64, (.v 3)), (I64, (.v 4)), (I64, (.v 5)), (I64, (.v 6)), (I64, (.v 7)), (I64, (.v 8)), (I64, (.v 9)), (I64, (.v 10)), ((.sl [(.int .i64), (.int .i64)]), (.v 11)), (I64, (.v 12)), (I64, (.v 13)), (I64, (.v 14)), (I64, (.v 15)), (I64, (.v 16)), (I64, (.v 17)), (I64, (.v 18)), (I64, (.v 19)), (I64, (.v 20)), (I64, (.v 21)), (I64, (.ki (0)))]))))
theorem c37 : compile Go.Proofs.Try.prog [s27] Go.Proofs.Try.f37 s37.params s37.results = some t37 := by kernel_rfl
def L37 : List (Nat × (List LV → List LV)) := [(27, F27)]
def M37 : List (Nat × (List LV → Prop)) := []
theorem h37 : ∀ sg, sg ∈ [s27] → ConOk Go.Proofs.Try.prog (ap L37) (apR M37) sg := by
  intro sg h
  simp only [List.mem_cons, List.not_mem_nil, or_false] at h
  rcases h with rfl
  · exact k27.to rfl rfl
set_option maxRecDepth 100000 in
theorem k37 : Kon Go.Proofs.Try.prog s37 F37 (fun _ => True) := by
  refine con_ok h37 (by kernel_rfl) Go.Proofs.Try.func37 (by kernel_rfl) c37 ?_
  intro ls _ _
  simp only [t37, Tr.den, L37, M37, ap, apR, if_true, Nat.reduceEqDiff, if_false, List.map_cons, List.map_nil, E.den, O1.ev, ev_add, ev_sub, ev_mul, ev_quo, ev_rem, ev_mx, ev_mn, ev_shl, ev_shr, ev_bit, ev_lt, ev_le, ev_eq, ev_and, ev_or, ev_eqb, ev_cat, ev_rcons, ev_rd, SameL, Col.same]
  simp only [setE_lt, setE_hit, Nat.reduceLT, Nat.reduceLeDiff, Nat.reduceAdd, Nat.reduceSub]
  simp only [E26]
  simp only [cok22 (outOf ls)]
  simp only [LV.Ii, LV.Bb, LV.Ll]
  simp only [F37, F33]
  refine ⟨fun _ => trivial, ?_⟩
  by_cases hok : CubicOk (outOf ls)
  case neg =>
    simp only [if_neg hok]
    rw [if_pos (by simp [tf_d])]
    simp only [out22, out22b, out22z, out22zb, zeroF, fset, fell, Nat.reduceEqDiff, if_true, if_false, setE_lt, setE_hit, Nat.reduceLT, Nat.reduceLeDiff, Nat.reduceAdd, Nat.reduceSub, outOf_z, outOf_s, LV.Ii, LV.Bb, LV.Ll, and_true, and_self, true_and]
  simp only [if_pos hok]
  rw [if_neg (by simp [tf_d])]
  simp only [out22, out22b, out22z, out22zb, zeroF, fset, fell, Nat.reduceEqDiff, if_true, if_false, setE_lt, setE_hit, Nat.reduceLT, Nat.reduceLeDiff, Nat.reduceAdd, Nat.reduceSub, outOf_z, outOf_s, LV.Ii, LV.Bb, LV.Ll, and_true, and_self, true_and]
end Go.Proofs.Ythhnnfmfeofknaa.Sy
