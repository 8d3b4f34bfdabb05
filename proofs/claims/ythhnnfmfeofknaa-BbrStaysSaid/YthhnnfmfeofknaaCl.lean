/-
  cubic: acknowledgements, losses, timeouts: the program's and the reference's are the same numbers.
-/
import Derived.Test.YthhnnfmfeofknaaCk
namespace Go.Proofs.Ythhnnfmfeofknaa.Sy
open Go Go.RowKit
set_option linter.unusedSimpArgs false
set_option linter.unusedVariables false

def fset (f : Nat → LV) (k : Nat) (x : LV) : Nat → LV := fun i => if i = k then x else f i
def zeroF : Nat → LV := fun i => if i = 11 then .l [] else .i 0
def z22 : List LV := l22 zeroF
theorem out22z {i : Nat} (r : List LV) (h : i < 22) : outOf (z22 ++ r) i = zeroF i := out22 _ _ h
theorem out22zb {i : Nat} (r : List LV) (h : 22 ≤ i) : outOf (z22 ++ r) i = outOf r (i - 22) := out22b _ _ h
abbrev SizeI (n : Int) : Prop := 0 ≤ n ∧ n ≤ 1073741824
abbrev TimeI (n : Int) : Prop := 0 ≤ n ∧ n ≤ 1125899906842624
theorem E90L (x y z : LV) (ha : 0 ≤ x.I) (hb : 0 ≤ y.I) (hc : 0 < z.I) : outOf (F90 [x, y, z]) 0 = .i (mulDiv x.I y.I z.I) := by
  simp only [F90, outOf_z, outOf_s]
  rw [mulDivL_ok ha hb hc]
  rfl
theorem E69L (x : LV) : outOf (F69 [x]) 0 = .i (cbrtGo x.I 21 0) := by simp only [F69, outOf_z]
theorem growA {b va : Int} (hb : 0 ≤ b ∧ b ≤ 1073741824) (h : 0 ≤ va) : min (sat (b + min va 9223372036854775807)) 1073741824 = min 1073741824 (b + va) := by unfold sat; omega
theorem growB {a vb x : Int} (hb : 0 ≤ a ∧ a ≤ 1073741824) (h : 0 ≤ vb) : min (max (sat (a + min vb 9223372036854775807)) x) 1073741824 = min 1073741824 (max x (a + vb)) := by unfold sat; omega
def F23 (ls : List LV) : List LV :=
  if CubicOk (outOf ls) then
    if SizeI (outOf ls 22).I ∧ TimeI (outOf ls 23).I ∧ TimeI (outOf ls 24).I then
      if (outOf ls 25).B = true then l22 (fset (outOf ls) 6 (.i (-1))) ++ [.i 0]
      else if (outOf ls 2).I < (outOf ls 3).I then l22 (fset (outOf ls) 2 (.i (min 1073741824 ((outOf ls 2).I + min (outOf ls 22).I (outOf ls 1).I)))) ++ [.i 0]
      else l22 (grown (begun' (outOf ls) (outOf ls 23)) (outOf ls 22).I (outOf ls 23).I (outOf ls 24).I) ++ [.i 0]
    else z22 ++ [.i 2]
  else z22 ++ [.i 230]
theorem E65 (ρ : Nat → LV) : F65 [ρ 0, ρ 1, ρ 2, ρ 3, ρ 4, ρ 5, ρ 6, ρ 7, ρ 8, ρ 9, ρ 10, ρ 11, ρ 12, ρ 13, ρ 14, ρ 15, ρ 16, ρ 17, ρ 18, ρ 19, ρ 20, ρ 21, ρ 22, ρ 23, ρ 24] = l22 (grown (begun' ρ (ρ 23)) (ρ 22).I (ρ 23).I (ρ 24).I) := by
  simp only [F65, outOf_z, outOf_s]
  unfold l22 begun'
  simp only [outOf_z, outOf_s]
  split <;> rfl
theorem R64a (a : LV) : R64 [.l [[a]]] := by
  simp only [R64, outOf_z, LV.Ll, List.length_cons, List.length_nil]; omega

/-! tideway/cubic.Acked -/
def s23 : Sig := ⟨23, 23, [.agg [I64, I64, I64, I64, I64, I64, I64, I64, I64, I64, I64, (.sl [(.int .i64), (.int .i64)]), I64, I64, I64, I64, I64, I64, I64, I64, I64, I64], .col I64, .col I64, .col I64, .col (.base .bool)], [.agg [I64, I64, I64, I64, I64, I64, I64, I64, I64, I64, I64, (.sl [(.int .i64), (.int .i64)]), I64, I64, I64, I64, I64, I64, I64, I64, I64, I64], .col I64]⟩
def t23 : Tr (List (Col × E)) :=
 (.item (.bind 26 [(.v 0), (.v 1), (.v 2), (.v 3), (.v 4), (.v 5), (.v 6), (.v 7), (.v 8), (.v 9), (.v 10), (.v 11), (.v 12), (.v 13), (.v 14), (.v 15), (.v 16), (.v 17), (.v 18), (.v 19), (.v 20), (.v 21)] 26 1)
 (.item (.pre (.kb true) 26 [(.v 0), (.v 1), (.v 2), (.v 3), (.v 4), (.v 5), (.v 6), (.v 7), (.v 8), (.v 9), (.v 10), (.v 11), (.v 12), (.v 13), (.v 14), (.v 15), (.v 16), (.v 17), (.v 18), (.v 19), (.v 20), (.v 21)])
 (.ite (.op1 .not (.op2 .eq (.v 26) (.ki (0))))
 (.leaf [(I64, (.ki (0))), (I64, (.ki (0))), (I64, (.ki (0))), (I64, (.ki (0))), (I64, (.ki (0))), (I64, (.ki (0))), (I64, (.ki (0))), (I64, (.ki (0))), (I64, (.ki (0))), (I64, (.ki (0))), (I64, (.ki (0))), ((.sl [(.int .i64), (.int .i64)]), .lnil), (I64, (.ki (0))), (I64, (.ki (0))), (I64, (.ki (0))), (I64, (.ki (0))), (I64, (.ki (0))), (I64, (.ki (0))), (I64, (.ki (0))), (I64, (.ki (0))), (I64, (.ki (0))), (I64, (.ki (0))), (I64, (.v 26))])
 (.item (.bind 64 [(.op2 .cat (.op2 .rcons (.v 22) .rnil) .lnil)] 27 1)
 (.item (.pre (.kb true) 64 [(.op2 .cat (.op2 .rcons (.v 22) .rnil) .lnil)])
 (.ite (.op2 .or (.op2 .or (.op2 .or (.op2 .or (.op1 .not (.v 27)) (.op2 .lt (.v 23) (.ki (0)))) (.op2 .lt (.ki (1125899906842624)) (.v 23))) (.op2 .lt (.v 24) (.ki (0)))) (.op2 .lt (.ki (1125899906842624)) (.v 24)))
  (.leaf [(I64, (.ki (0))), (I64, (.ki (0))), (I64, (.ki (0))), (I64, (.ki (0))), (I64, (.ki (0))), (I64, (.ki (0))), (I64, (.ki (0))), (I64, (.ki (0))), (I64, (.ki (0))), (I64, (.ki (0))), (I64, (.ki (0))), ((.sl [(.int .i64), (.int .i64)]), .lnil), (I64, (.ki (0))), (I64, (.ki (0))), (I64, (.ki (0))), (I64, (.ki (0))), (I64, (.ki (0))), (I64, (.ki (0))), (I64, (.ki (0))), (I64, (.ki (0))), (I64, (.ki (0))), (I64, (.ki (0))), (I64, (.ki (2)))])
  (.ite (.v 25)
   (.leaf [(I64, (.v 0)), (I64, (.v 1)), (I64, (.v 2)), (I64, (.v 3)), (I64, (.v 4)), (I64, (.v 5)), (I64, (.ki (-1))), (I64, (.v 7)), (I64, (.v 8)), (I64, (.v 9)), (I64, (.v 10)), ((.sl [(.int .i64), (.int .i64)]), (.v 11)), (I64, (.v 12)), (I64, (.v 13)), (I64, (.v 14)), (I64, (.v 15)), (I64, (.v 16)), (I64, (.v 17)), (I64, (.v 18)), (I64, (.v 19)), (I64, (.v 20)), (I64, (.v 21)), (I64, (.ki (0)))])
   (.ite (.op2 .lt (.v 2) (.v 3))
    (.leaf [(I64, (.v 0)), (I64, (.v 1)), (I64, (.op2 .mn (.ki (1073741824)) (.op1 (.wrap .i64) (.op2 .add (.v 2) (.op2 .mn (.v 22) (.v 1)))))), (I64, (.v 3)), (I64, (.v 4)), (I64, (.v 5)), (I64, (.v 6)), (I64, (.v 7)), (I64, (.v 8)), (I64, (.v 9)), (I64, (.v 10)), ((.sl [(.int .i64), (.int .i64)]), (.v 11)), (I64, (.v 12)), (I64, (.v 13)), (I64, (.v 14)), (I64, (.v 15)), (I64, (.v 16)), (I64, (.v 17)), (I64, (.v 18)), (I64, (.v 19)), (I64, (.v 20)), (I64, (.v 21)), (I64, (.ki (0)))])
    (.item (.bind 65 [(.v 0), (.v 1), (.v 2), (.v 3), (.v 4), (.v 5), (.v 6), (.v 7), (.v 8), (.v 9), (.v 10), (.v 11), (.v 12), (.v 13), (.v 14), (.v 15), (.v 16), (.v 17), (.v 18), (.v 19), (.v 20), (.v 21), (.v 22), (.v 23), (.v 24)] 28 22)
    (.item (.pre (.kb true) 65 [(.v 0), (.v 1), (.v 2), (.v 3), (.v 4), (.v 5), (.v 6), (.v 7), (.v 8), (.v 9), (.v 10), (.v 11), (.v 12), (.v 13), (.v 14), (.v 15), (.v 16), (.v 17), (.v 18), (.v 19), (.v 20), (.v 21), (.v 22), (.v 23), (.v 24)])
    (.leaf [(I64, (.v 28)), (I64, (.v 29)), (I64, (.v 30)), (I64, (.v 31)), (I64, (.v 32)), (I64, (.v 33)), (I64, (.v 34)), (I64, (.v 35)), (I64, (.v 36)), (I64, (.v 37)), (I64, (.v 38)), ((.sl [(.int .i64), (.int .i64)]), (.v 39)), (I64, (.v 40)), (I64, (.v 41)), (I64, (.v 42)), (I64, (.v 43)), (I64, (.v 44)), (I64, (.v 45)), (I64, (.v 46)), (I64, (.v 47)), (I64, (.v 48)), (I64, (.v 49)), (I64, (.ki (0)))])))))))))))
theorem c23 : compile Go.Proofs.Try.prog [s26, s64, s65] Go.Proofs.Try.f23 s23.params s23.results = some t23 := by kernel_rfl
def L23 : List (Nat × (List LV → List LV)) := [(26, F26), (64, F64), (65, F65)]
def M23 : List (Nat × (List LV → Prop)) := [(64, R64), (65, R65)]
theorem h23 : ∀ sg, sg ∈ [s26, s64, s65] → ConOk Go.Proofs.Try.prog (ap L23) (apR M23) sg := by
  intro sg h
  simp only [List.mem_cons, List.not_mem_nil, or_false] at h
  rcases h with rfl | rfl | rfl
  · exact k26.to rfl rfl
  · exact k64.to rfl rfl
  · exact k65.to rfl rfl
set_option maxRecDepth 100000 in
theorem k23 : Kon Go.Proofs.Try.prog s23 F23 (fun _ => True) := by
  refine con_ok h23 (by kernel_rfl) Go.Proofs.Try.func23 (by kernel_rfl) c23 ?_
  intro ls _ _
  simp only [t23, Tr.den, L23, M23, ap, apR, if_true, Nat.reduceEqDiff, if_false, List.map_cons, List.map_nil, E.den, O1.ev, ev_add, ev_sub, ev_mul, ev_quo, ev_rem, ev_mx, ev_mn, ev_shl, ev_shr, ev_bit, ev_lt, ev_le, ev_eq, ev_and, ev_or, ev_eqb, ev_cat, ev_rcons, ev_rd, SameL, Col.same]
  simp only [setE_lt, setE_hit, Nat.reduceLT, Nat.reduceLeDiff, Nat.reduceAdd, Nat.reduceSub]
  simp only [LV.Ll, List.headD_cons, List.cons_append, List.nil_append]
  simp only [E26, E64a]
  simp only [E65 (outOf ls)]
  simp only [cok22 (outOf ls)]
  simp only [LV.Ii, LV.Bb, LV.Ll]
  simp only [F23]
  refine ⟨fun _ => trivial, ?_⟩
  by_cases hok : CubicOk (outOf ls)
  case neg =>
    simp only [if_neg hok]
    rw [if_pos (by simp [tf_d])]
    simp only [out22, out22b, out22z, out22zb, zeroF, fset, Nat.reduceEqDiff, if_true, if_false, setE_lt, setE_hit, Nat.reduceLT, Nat.reduceLeDiff, Nat.reduceAdd, Nat.reduceSub, outOf_z, outOf_s, LV.Ii, LV.Bb, LV.Ll, and_true, and_self]
  simp only [if_pos hok]
  rw [if_neg (by simp [tf_d])]
  refine ⟨fun _ => R64a _, ?_⟩
  by_cases hb : SizeI (outOf ls 22).I ∧ TimeI (outOf ls 23).I ∧ TimeI (outOf ls 24).I
  case neg =>
    rw [if_pos (by simp only [Bool.or_eq_true, Bool.and_eq_true, Bool.not_eq_true', tf_t, tf_f, Bool.or_eq_false_iff, Bool.and_eq_false_iff]; unfold SizeI TimeI at hb; omega)]
    simp only [if_neg hb]
    simp only [out22, out22b, out22z, out22zb, zeroF, fset, Nat.reduceEqDiff, if_true, if_false, setE_lt, setE_hit, Nat.reduceLT, Nat.reduceLeDiff, Nat.reduceAdd, Nat.reduceSub, outOf_z, outOf_s, LV.Ii, LV.Bb, LV.Ll, and_true, and_self]
  rw [if_neg (by simp only [Bool.or_eq_true, Bool.and_eq_true, Bool.not_eq_true', tf_t, tf_f, Bool.or_eq_false_iff, Bool.and_eq_false_iff]; unfold SizeI TimeI at hb; omega)]
  simp only [if_pos hb]
  obtain ⟨hn, hnow, hs⟩ := hb
  by_cases hi : (outOf ls 25).B = true
  · simp only [hi, if_true]
    simp only [out22, out22b, out22z, out22zb, zeroF, fset, Nat.reduceEqDiff, if_true, if_false, setE_lt, setE_hit, Nat.reduceLT, Nat.reduceLeDiff, Nat.reduceAdd, Nat.reduceSub, outOf_z, outOf_s, LV.Ii, LV.Bb, LV.Ll, and_true, and_self]
  simp only [if_neg hi]
  by_cases hc : (outOf ls 2).I < (outOf ls 3).I
  · rw [if_pos ((tf_t _).mpr hc), if_pos hc]
    have hw : IntKind.i64.wrap ((outOf ls 2).I + min (outOf ls 22).I (outOf ls 1).I) = (outOf ls 2).I + min (outOf ls 22).I (outOf ls 1).I := by
      unfold CubicOk Common at hok
      exact wrap_i64 (by omega) (by omega)
    simp only [hw]
    simp only [out22, out22b, out22z, out22zb, zeroF, fset, Nat.reduceEqDiff, if_true, if_false, setE_lt, setE_hit, Nat.reduceLT, Nat.reduceLeDiff, Nat.reduceAdd, Nat.reduceSub, outOf_z, outOf_s, LV.Ii, LV.Bb, LV.Ll, and_true, and_self]
  · rw [if_neg (fun h => hc ((tf_t _).mp h)), if_neg hc]
    refine ⟨fun _ => ⟨hok, hn, hnow, hs⟩, ?_⟩
    simp only [out22, out22', out22b, Nat.reduceLT, setE_lt, setE_hit, Nat.reduceLT, Nat.reduceLeDiff, Nat.reduceAdd, Nat.reduceSub, outOf_z, outOf_s, LV.Ii, and_true]
abbrev F24 := F23
theorem E66' (a : LV) : (outOf (F66 [a]) 0).B = tf (SizeI a.I) := E66 a
theorem E67' (a : LV) : (outOf (F67 [a]) 0).B = tf (TimeI a.I) := E67 a
theorem E29 (ρ : Nat → LV) (t : LV) (h : CubicOk ρ) : (outOf (F29 [ρ 0, ρ 1, ρ 2, ρ 3, ρ 4, ρ 5, ρ 6, ρ 7, ρ 8, ρ 9, ρ 10, ρ 11, ρ 12, ρ 13, ρ 14, ρ 15, ρ 16, ρ 17, ρ 18, ρ 19, ρ 20, ρ 21, t]) 0).I = curveI (ρ 1).I (ρ 5).I (ρ 7).I t.I := E28 ρ t h

/-! tideway/tidewayref16.Acked -/
def s24 : Sig := ⟨24, 24, [.agg [I64, I64, I64, I64, I64, I64, I64, I64, I64, I64, I64, (.sl [(.int .i64), (.int .i64)]), I64, I64, I64, I64, I64, I64, I64, I64, I64, I64], .col I64, .col I64, .col I64, .col (.base .bool)], [.agg [I64, I64, I64, I64, I64, I64, I64, I64, I64, I64, I64, (.sl [(.int .i64), (.int .i64)]), I64, I64, I64, I64, I64, I64, I64, I64, I64, I64], .col I64]⟩
def t24 : Tr (List (Col × E)) :=
 (.item (.bind 27 [(.v 0), (.v 1), (.v 2), (.v 3), (.v 4), (.v 5), (.v 6), (.v 7), (.v 8), (.v 9), (.v 10), (.v 11), (.v 12), (.v 13), (.v 14), (.v 15), (.v 16), (.v 17), (.v 18), (.v 19), (.v 20), (.v 21)] 26 1)
 (.item (.pre (.kb true) 27 [(.v 0), (.v 1), (.v 2), (.v 3), (.v 4), (.v 5), (.v 6), (.v 7), (.v 8), (.v 9), (.v 10), (.v 11), (.v 12), (.v 13), (.v 14), (.v 15), (.v 16), (.v 17), (.v 18), (.v 19), (.v 20), (.v 21)])
 (.ite (.op1 .not (.op2 .eq (.v 26) (.ki (0))))
 (.leaf [(I64, (.ki (0))), (I64, (.ki (0))), (I64, (.ki (0))), (I64, (.ki (0))), (I64, (.ki (0))), (I64, (.ki (0))), (I64, (.ki (0))), (I64, (.ki (0))), (I64, (.ki (0))), (I64, (.ki (0))), (I64, (.ki (0))), ((.sl [(.int .i64), (.int .i64)]), .lnil), (I64, (.ki (0))), (I64, (.ki (0))), (I64, (.ki (0))), (I64, (.ki (0))), (I64, (.ki (0))), (I64, (.ki (0))), (I64, (.ki (0))), (I64, (.ki (0))), (I64, (.ki (0))), (I64, (.ki (0))), (I64, (.ki (230)))])
 (.item (.bind 66 [(.v 22)] 27 1)
 (.item (.bind 67 [(.v 23)] 28 1)
 (.item (.bind 67 [(.v 24)] 29 1)
 (.item (.pre (.kb true) 66 [(.v 22)])
 (.item (.pre (.op1 .not (.op1 .not (.v 27))) 67 [(.v 23)])
 (.item (.pre (.op1 .not (.op2 .or (.op1 .not (.v 27)) (.op1 .not (.v 28)))) 67 [(.v 24)])
 (.ite (.op2 .or (.op2 .or (.op1 .not (.v 27)) (.op1 .not (.v 28))) (.op1 .not (.v 29)))
  (.leaf [(I64, (.ki (0))), (I64, (.ki (0))), (I64, (.ki (0))), (I64, (.ki (0))), (I64, (.ki (0))), (I64, (.ki (0))), (I64, (.ki (0))), (I64, (.ki (0))), (I64, (.ki (0))), (I64, (.ki (0))), (I64, (.ki (0))), ((.sl [(.int .i64), (.int .i64)]), .lnil), (I64, (.ki (0))), (I64, (.ki (0))), (I64, (.ki (0))), (I64, (.ki (0))), (I64, (.ki (0))), (I64, (.ki (0))), (I64, (.ki (0))), (I64, (.ki (0))), (I64, (.ki (0))), (I64, (.ki (0))), (I64, (.ki (2)))])
  (.ite (.v 25)
   (.leaf [(I64, (.v 0)), (I64, (.v 1)), (I64, (.v 2)), (I64, (.v 3)), (I64, (.v 4)), (I64, (.v 5)), (I64, (.ki (-1))), (I64, (.v 7)), (I64, (.v 8)), (I64, (.v 9)), (I64, (.v 10)), ((.sl [(.int .i64), (.int .i64)]), (.v 11)), (I64, (.v 12)), (I64, (.v 13)), (I64, (.v 14)), (I64, (.v 15)), (I64, (.v 16)), (I64, (.v 17)), (I64, (.v 18)), (I64, (.v 19)), (I64, (.v 20)), (I64, (.v 21)), (I64, (.ki (0)))])
   (.ite (.op2 .lt (.v 2) (.v 3))
    (.leaf [(I64, (.v 0)), (I64, (.v 1)), (I64, (.op2 .mn (.op1 (.wrap .i64) (.op2 .add (.v 2) (.op2 .mn (.v 22) (.v 1)))) (.ki (1073741824)))), (I64, (.v 3)), (I64, (.v 4)), (I64, (.v 5)), (I64, (.v 6)), (I64, (.v 7)), (I64, (.v 8)), (I64, (.v 9)), (I64, (.v 10)), ((.sl [(.int .i64), (.int .i64)]), (.v 11)), (I64, (.v 12)), (I64, (.v 13)), (I64, (.v 14)), (I64, (.v 15)), (I64, (.v 16)), (I64, (.v 17)), (I64, (.v 18)), (I64, (.v 19)), (I64, (.v 20)), (I64, (.v 21)), (I64, (.ki (0)))])
    (.ite (.op2 .eq (.v 6) (.ki (-1)))
     (.ite (.op2 .lt (.v 2) (.v 5))
      (.item (.bind 68 [(.op1 (.wrap .i64) (.op2 .sub (.v 5) (.v 2))), (.ki (10000000000)), (.op1 (.wrap .i64) (.op2 .mul (.ki (4)) (.v 1)))] 30 2)
      (.item (.pre (.kb true) 68 [(.op1 (.wrap .i64) (.op2 .sub (.v 5) (.v 2))), (.ki (10000000000)), (.op1 (.wrap .i64) (.op2 .mul (.ki (4)) (.v 1)))])
      (.item (.bind 69 [(.v 30)] 32 1)
      (.item (.pre (.kb true) 69 [(.v 30)])
      (.item (.bind 29 [(.v 0), (.v 1), (.v 2), (.v 3), (.v 4), (.v 5), (.v 23), (.v 32), (.v 2), (.v 2), (.v 10), (.v 11), (.v 12), (.v 13), (.v 14), (.v 15), (.v 16), (.v 17), (.v 18), (.v 19), (.v 20), (.v 21), (.op1 (.wrap .i64) (.op2 .quo (.op1 (.wrap .i64) (.op2 .add (.op2 .mx (.op1 (.wrap .i64) (.op2 .sub (.v 23) (.v 23))) (.ki (0))) (.v 24))) (.ki (1000))))] 33 1)
      (.item (.bind 70 [(.v 33), (.v 2), (.op1 (.wrap .i64) (.op2 .add (.v 2) (.op1 (.wrap .i64) (.op2 .quo (.v 2) (.ki (2))))))] 34 1)
      (.item (.pre (.kb true) 29 [(.v 0), (.v 1), (.v 2), (.v 3), (.v 4), (.v 5), (.v 23), (.v 32), (.v 2), (.v 2), (.v 10), (.v 11), (.v 12), (.v 13), (.v 14), (.v 15), (.v 16), (.v 17), (.v 18), (.v 19), (.v 20), (.v 21), (.op1 (.wrap .i64) (.op2 .quo (.op1 (.wrap .i64) (.op2 .add (.op2 .mx (.op1 (.wrap .i64) (.op2 .sub (.v 23) (.v 23))) (.ki (0))) (.v 24))) (.ki (1000))))])
      (.item (.pre (.kb true) 70 [(.v 33), (.v 2), (.op1 (.wrap .i64) (.op2 .add (.v 2) (.op1 (.wrap .i64) (.op2 .quo (.v 2) (.ki (2))))))])
      (.item (.bind 68 [(.op1 (.wrap .i64) (.op2 .sub (.v 34) (.v 2))), (.v 22), (.v 2)] 35 2)
      (.item (.pre (.kb true) 68 [(.op1 (.wrap .i64) (.op2 .sub (.v 34) (.v 2))), (.v 22), (.v 2)])
      (.item (.bind 68 [(.op1 (.wrap .i64) (.op2 .mul (.ki (529)) (.v 1))), (.v 22), (.op1 (.wrap .i64) (.op2 .mul (.ki (1000)) (.v 2)))] 37 2)
      (.item (.pre (.kb true) 68 [(.op1 (.wrap .i64) (.op2 .mul (.ki (529)) (.v 1))), (.v 22), (.op1 (.wrap .i64) (.op2 .mul (.ki (1000)) (.v 2)))])
      (.item (.bind 71 [(.v 2), (.v 37)] 39 1)
      (.item (.pre (.kb true) 71 [(.v 2), (.v 37)])
      (.item (.bind 71 [(.v 2), (.v 35)] 40 1)
      (.item (.pre (.kb true) 71 [(.v 2), (.v 35)])
      (.leaf [(I64, (.v 0)), (I64, (.v 1)), (I64, (.op2 .mn (.op2 .mx (.v 40) (.op2 .mn (.v 39) (.ki (1073741824)))) (.ki (1073741824)))), (I64, (.v 3)), (I64, (.v 4)), (I64, (.v 5)), (I64, (.v 23)), (I64, (.v 32)), (I64, (.op2 .mn (.v 39) (.ki (1073741824)))), (I64, (.v 2)), (I64, (.v 10)), ((.sl [(.int .i64), (.int .i64)]), (.v 11)), (I64, (.v 12)), (I64, (.v 13)), (I64, (.v 14)), (I64, (.v 15)), (I64, (.v 16)), (I64, (.v 17)), (I64, (.v 18)), (I64, (.v 19)), (I64, (.v 20)), (I64, (.v 21)), (I64, (.ki (0)))])))))))))))))))))
      (.item (.bind 29 [(.v 0), (.v 1), (.v 2), (.v 3), (.v 4), (.v 2), (.v 23), (.ki (0)), (.v 2), (.v 2), (.v 10), (.v 11), (.v 12), (.v 13), (.v 14), (.v 15), (.v 16), (.v 17), (.v 18), (.v 19), (.v 20), (.v 21), (.op1 (.wrap .i64) (.op2 .quo (.op1 (.wrap .i64) (.op2 .add (.op2 .mx (.op1 (.wrap .i64) (.op2 .sub (.v 23) (.v 23))) (.ki (0))) (.v 24))) (.ki (1000))))] 41 1)
      (.item (.bind 70 [(.v 41), (.v 2), (.op1 (.wrap .i64) (.op2 .add (.v 2) (.op1 (.wrap .i64) (.op2 .quo (.v 2) (.ki (2))))))] 42 1)
      (.item (.pre (.kb true) 29 [(.v 0), (.v 1), (.v 2), (.v 3), (.v 4), (.v 2), (.v 23), (.ki (0)), (.v 2), (.v 2), (.v 10), (.v 11), (.v 12), (.v 13), (.v 14), (.v 15), (.v 16), (.v 17), (.v 18), (.v 19), (.v 20), (.v 21), (.op1 (.wrap .i64) (.op2 .quo (.op1 (.wrap .i64) (.op2 .add (.op2 .mx (.op1 (.wrap .i64) (.op2 .sub (.v 23) (.v 23))) (.ki (0))) (.v 24))) (.ki (1000))))])
      (.item (.pre (.kb true) 70 [(.v 41), (.v 2), (.op1 (.wrap .i64) (.op2 .add (.v 2) (.op1 (.wrap .i64) (.op2 .quo (.v 2) (.ki (2))))))])
      (.item (.bind 68 [(.op1 (.wrap .i64) (.op2 .sub (.v 42) (.v 2))), (.v 22), (.v 2)] 43 2)
      (.item (.pre (.kb true) 68 [(.op1 (.wrap .i64) (.op2 .sub (.v 42) (.v 2))), (.v 22), (.v 2)])
      (.item (.bind 68 [(.op1 (.wrap .i64) (.op2 .mul (.ki (529)) (.v 1))), (.v 22), (.op1 (.wrap .i64) (.op2 .mul (.ki (1000)) (.v 2)))] 45 2)
      (.item (.pre (.kb true) 68 [(.op1 (.wrap .i64) (.op2 .mul (.ki (529)) (.v 1))), (.v 22), (.op1 (.wrap .i64) (.op2 .mul (.ki (1000)) (.v 2)))])
      (.item (.bind 71 [(.v 2), (.v 45)] 47 1)
      (.item (.pre (.kb true) 71 [(.v 2), (.v 45)])
      (.item (.bind 71 [(.v 2), (.v 43)] 48 1)
      (.item (.pre (.kb true) 71 [(.v 2), (.v 43)])
      (.leaf [(I64, (.v 0)), (I64, (.v 1)), (I64, (.op2 .mn (.op2 .mx (.v 48) (.op2 .mn (.v 47) (.ki (1073741824)))) (.ki (1073741824)))), (I64, (.v 3)), (I64, (.v 4)), (I64, (.v 2)), (I64, (.v 23)), (I64, (.ki (0))), (I64, (.op2 .mn (.v 47) (.ki (1073741824)))), (I64, (.v 2)), (I64, (.v 10)), ((.sl [(.int .i64), (.int .i64)]), (.v 11)), (I64, (.v 12)), (I64, (.v 13)), (I64, (.v 14)), (I64, (.v 15)), (I64, (.v 16)), (I64, (.v 17)), (I64, (.v 18)), (I64, (.v 19)), (I64, (.v 20)), (I64, (.v 21)), (I64, (.ki (0)))]))))))))))))))
     (.item (.bind 29 [(.v 0), (.v 1), (.v 2), (.v 3), (.v 4), (.v 5), (.v 6), (.v 7), (.v 8), (.v 9), (.v 10), (.v 11), (.v 12), (.v 13), (.v 14), (.v 15), (.v 16), (.v 17), (.v 18), (.v 19), (.v 20), (.v 21), (.op1 (.wrap .i64) (.op2 .quo (.op1 (.wrap .i64) (.op2 .add (.op2 .mx (.op1 (.wrap .i64) (.op2 .sub (.v 23) (.v 6))) (.ki (0))) (.v 24))) (.ki (1000))))] 49 1)
     (.item (.bind 70 [(.v 49), (.v 2), (.op1 (.wrap .i64) (.op2 .add (.v 2) (.op1 (.wrap .i64) (.op2 .quo (.v 2) (.ki (2))))))] 50 1)
     (.item (.pre (.kb true) 29 [(.v 0), (.v 1), (.v 2), (.v 3), (.v 4), (.v 5), (.v 6), (.v 7), (.v 8), (.v 9), (.v 10), (.v 11), (.v 12), (.v 13), (.v 14), (.v 15), (.v 16), (.v 17), (.v 18), (.v 19), (.v 20), (.v 21), (.op1 (.wrap .i64) (.op2 .quo (.op1 (.wrap .i64) (.op2 .add (.op2 .mx (.op1 (.wrap .i64) (.op2 .sub (.v 23) (.v 6))) (.ki (0))) (.v 24))) (.ki (1000))))])
     (.item (.pre (.kb true) 70 [(.v 49), (.v 2), (.op1 (.wrap .i64) (.op2 .add (.v 2) (.op1 (.wrap .i64) (.op2 .quo (.v 2) (.ki (2))))))])
     (.item (.bind 68 [(.op1 (.wrap .i64) (.op2 .sub (.v 50) (.v 2))), (.v 22), (.v 2)] 51 2)
     (.item (.pre (.kb true) 68 [(.op1 (.wrap .i64) (.op2 .sub (.v 50) (.v 2))), (.v 22), (.v 2)])
     (.item (.bind 68 [(.op1 (.wrap .i64) (.op2 .mul (.ki (529)) (.v 1))), (.v 22), (.op1 (.wrap .i64) (.op2 .mul (.ki (1000)) (.v 2)))] 53 2)
     (.item (.pre (.kb true) 68 [(.op1 (.wrap .i64) (.op2 .mul (.ki (529)) (.v 1))), (.v 22), (.op1 (.wrap .i64) (.op2 .mul (.ki (1000)) (.v 2)))])
     (.item (.bind 71 [(.v 8), (.v 53)] 55 1)
     (.item (.pre (.kb true) 71 [(.v 8), (.v 53)])
     (.item (.bind 71 [(.v 2), (.v 51)] 56 1)
     (.item (.pre (.kb true) 71 [(.v 2), (.v 51)])
     (.leaf [(I64, (.v 0)), (I64, (.v 1)), (I64, (.op2 .mn (.op2 .mx (.v 56) (.op2 .mn (.v 55) (.ki (1073741824)))) (.ki (1073741824)))), (I64, (.v 3)), (I64, (.v 4)), (I64, (.v 5)), (I64, (.v 6)), (I64, (.v 7)), (I64, (.op2 .mn (.v 55) (.ki (1073741824)))), (I64, (.v 9)), (I64, (.v 10)), ((.sl [(.int .i64), (.int .i64)]), (.v 11)), (I64, (.v 12)), (I64, (.v 13)), (I64, (.v 14)), (I64, (.v 15)), (I64, (.v 16)), (I64, (.v 17)), (I64, (.v 18)), (I64, (.v 19)), (I64, (.v 20)), (I64, (.v 21)), (I64, (.ki (0)))]))))))))))))))))))))))))))
theorem c24 : compile Go.Proofs.Try.prog [s27, s29, s66, s67, s68, s69, s70, s71] Go.Proofs.Try.f24 s24.params s24.results = some t24 := by kernel_rfl
def L24 : List (Nat × (List LV → List LV)) := [(27, F27), (29, F29), (66, F66), (67, F67), (68, F68), (69, F69), (70, F70), (71, F71)]
def M24 : List (Nat × (List LV → Prop)) := [(29, R29), (68, R68)]
theorem h24 : ∀ sg, sg ∈ [s27, s29, s66, s67, s68, s69, s70, s71] → ConOk Go.Proofs.Try.prog (ap L24) (apR M24) sg := by
  intro sg h
  simp only [List.mem_cons, List.not_mem_nil, or_false] at h
  rcases h with rfl | rfl | rfl | rfl | rfl | rfl | rfl | rfl
  · exact k27.to rfl rfl
  · exact k29.to rfl rfl
  · exact k66.to rfl rfl
  · exact k67.to rfl rfl
  · exact k68.to rfl rfl
  · exact k69.to rfl rfl
  · exact k70.to rfl rfl
  · exact k71.to rfl rfl
set_option maxRecDepth 100000 in
theorem k24 : Kon Go.Proofs.Try.prog s24 F24 (fun _ => True) := by
  refine con_ok h24 (by kernel_rfl) Go.Proofs.Try.func24 (by kernel_rfl) c24 ?_
  intro ls _ _
  simp only [t24, Tr.den, L24, M24, ap, apR, if_true, Nat.reduceEqDiff, if_false, List.map_cons, List.map_nil, E.den, O1.ev, ev_add, ev_sub, ev_mul, ev_quo, ev_rem, ev_mx, ev_mn, ev_shl, ev_shr, ev_bit, ev_lt, ev_le, ev_eq, ev_and, ev_or, ev_eqb, ev_cat, ev_rcons, ev_rd, SameL, Col.same]
  simp only [setE_lt, setE_hit, Nat.reduceLT, Nat.reduceLeDiff, Nat.reduceAdd, Nat.reduceSub]
  simp only [E26, E66', E67']
  simp only [cok22 (outOf ls)]
  simp only [LV.Ii, LV.Bb, LV.Ll]
  simp only [F24, F23]
  refine ⟨fun _ => trivial, ?_⟩
  by_cases hok : CubicOk (outOf ls)
  case neg =>
    simp only [if_neg hok]
    rw [if_pos (by simp [tf_d])]
    simp only [out22, out22b, out22z, out22zb, zeroF, fset, Nat.reduceEqDiff, if_true, if_false, setE_lt, setE_hit, Nat.reduceLT, Nat.reduceLeDiff, Nat.reduceAdd, Nat.reduceSub, outOf_z, outOf_s, LV.Ii, LV.Bb, LV.Ll, and_true, and_self]
  simp only [if_pos hok]
  rw [if_neg (by simp [tf_d])]
  refine ⟨fun _ => trivial, fun _ => trivial, fun _ => trivial, ?_⟩
  by_cases hb : SizeI (outOf ls 22).I ∧ TimeI (outOf ls 23).I ∧ TimeI (outOf ls 24).I
  case neg =>
    rw [if_pos (by simp only [Bool.or_eq_true, Bool.and_eq_true, Bool.not_eq_true', tf_t, tf_f, Bool.or_eq_false_iff, Bool.and_eq_false_iff]; omega)]
    simp only [if_neg hb]
    simp only [out22, out22b, out22z, out22zb, zeroF, fset, Nat.reduceEqDiff, if_true, if_false, setE_lt, setE_hit, Nat.reduceLT, Nat.reduceLeDiff, Nat.reduceAdd, Nat.reduceSub, outOf_z, outOf_s, LV.Ii, LV.Bb, LV.Ll, and_true, and_self]
  rw [if_neg (by simp only [Bool.or_eq_true, Bool.and_eq_true, Bool.not_eq_true', tf_t, tf_f, Bool.or_eq_false_iff, Bool.and_eq_false_iff]; omega)]
  simp only [if_pos hb]
  obtain ⟨hn, hnow, hs⟩ := hb
  by_cases hi : (outOf ls 25).B = true
  · simp only [hi, if_true]
    simp only [out22, out22b, out22z, out22zb, zeroF, fset, Nat.reduceEqDiff, if_true, if_false, setE_lt, setE_hit, Nat.reduceLT, Nat.reduceLeDiff, Nat.reduceAdd, Nat.reduceSub, outOf_z, outOf_s, LV.Ii, LV.Bb, LV.Ll, and_true, and_self]
  simp only [if_neg hi]
  by_cases hc : (outOf ls 2).I < (outOf ls 3).I
  · rw [if_pos ((tf_t _).mpr hc), if_pos hc]
    have hw : IntKind.i64.wrap ((outOf ls 2).I + min (outOf ls 22).I (outOf ls 1).I) = (outOf ls 2).I + min (outOf ls 22).I (outOf ls 1).I := by
      unfold CubicOk Common at hok
      exact wrap_i64 (by omega) (by omega)
    simp only [hw, Int.min_comm _ (1073741824 : Int)]
    simp only [out22, out22b, out22z, out22zb, zeroF, fset, Nat.reduceEqDiff, if_true, if_false, setE_lt, setE_hit, Nat.reduceLT, Nat.reduceLeDiff, Nat.reduceAdd, Nat.reduceSub, outOf_z, outOf_s, LV.Ii, LV.Bb, LV.Ll, and_true, and_self]
  rw [if_neg (fun h => hc ((tf_t _).mp h)), if_neg hc]
  simp only [F68, R68, F29, R29]
  have mc : ∀ x, max (IntKind.i64.wrap x) 0 = max 0 (IntKind.i64.wrap x) := fun x => Int.max_comm _ _
  simp only [mc, true_implies, implies_true, true_and]
  have hok' := hok
  obtain ⟨_, ⟨b1, b2, b3, b4, b5, b6, b7⟩, ⟨b8, b9, b10⟩, b11, _⟩ := hok'
  by_cases he : (outOf ls 6).I = -1
  · rw [if_pos ((tf_t _).mpr he)]
    have hg : CubicOk (begun (outOf ls) (outOf ls 23)) := begun_ok hok hnow
    have gf := grow_facts (n := (outOf ls 22).I) (now := (outOf ls 23).I) (srtt := (outOf ls 24).I) hg hn hnow hs
    have e28 := fun t => E28 (begun (outOf ls) (outOf ls 23)) t hg
    have he' : (outOf ls 6).I < 0 := by omega
    by_cases hcw : (outOf ls 2).I < (outOf ls 5).I
    · rw [if_pos ((tf_t _).mpr hcw)]
      have wm : IntKind.i64.wrap (4 * (outOf ls 1).I) = 4 * (outOf ls 1).I := wrap_i64 (by omega) (by omega)
      have wd : IntKind.i64.wrap ((outOf ls 5).I - (outOf ls 2).I) = (outOf ls 5).I - (outOf ls 2).I := wrap_i64 (by omega) (by omega)
      simp only [wm, wd]
      have eK := E90L (.i ((outOf ls 5).I - (outOf ls 2).I)) (.i 10000000000) (.i (4 * (outOf ls 1).I)) (by simp only [LV.Ii]; omega) (by simp only [LV.Ii]; omega) (by simp only [LV.Ii]; omega)
      simp only [LV.Ii] at eK
      simp only [eK, E69L, LV.Ii]
      simp only [begun, begun', Nat.reduceEqDiff, if_true, if_false, if_pos hcw, if_pos he', LV.Ii] at gf e28 ⊢
      refine ⟨R90_ok _ _ _ (by simp only [LV.Ii]; omega) (by simp only [LV.Ii]; omega) (by simp only [LV.Ii]; omega), ?_⟩
      simp only [out22, out22b, grown, if_pos hcw, if_pos he', begun, begun', Nat.reduceEqDiff, if_true, if_false, setE_lt, setE_hit, Nat.reduceLT, Nat.reduceLeDiff, Nat.reduceAdd, Nat.reduceSub, outOf_z, outOf_s, LV.Ii, LV.Bb, LV.Ll, and_true, true_and]
      generalize cbrtGo (mulDiv ((outOf ls 5).I - (outOf ls 2).I) 10000000000 (4 * (outOf ls 1).I)) 21 0 = kk at *
      obtain ⟨⟨wt, ht⟩, w1, w2, w3, hc, hm, hw⟩ := gf
      simp only [wt, w1, w2, w3, e28, E70, LV.Ii]
      have hwr := clampI_range (curveI (outOf ls 1).I (outOf ls 5).I kk ((max 0 ((outOf ls 23).I - (outOf ls 23).I) + (outOf ls 24).I) / 1000)) (l := (outOf ls 2).I) (h := (outOf ls 2).I + (outOf ls 2).I / 2) (by omega)
      refine ⟨ht, ?_⟩
      generalize clampI (curveI (outOf ls 1).I (outOf ls 5).I kk ((max 0 ((outOf ls 23).I - (outOf ls 23).I) + (outOf ls 24).I) / 1000)) (outOf ls 2).I ((outOf ls 2).I + (outOf ls 2).I / 2) = wi at *
      have w4 : IntKind.i64.wrap (wi - (outOf ls 2).I) = wi - (outOf ls 2).I := wrap_i64 (by omega) (by omega)
      simp only [w4]
      refine ⟨R90_ok _ _ _ (by simp only [LV.Ii]; omega) (by omega) (by omega), R90_ok _ _ _ (by simp only [LV.Ii]; omega) (by omega) (by simp only [LV.Ii]; omega), ?_⟩
      have ea := E90 (.i (529 * (outOf ls 1).I)) (outOf ls 22) (.i (1000 * (outOf ls 2).I)) (by simp only [LV.Ii]; omega) (by omega) (by simp only [LV.Ii]; omega)
      have eb := E90 (.i (wi - (outOf ls 2).I)) (outOf ls 22) (outOf ls 2) (by simp only [LV.Ii]; omega) (by omega) (by omega)
      have na := mulDiv_nonneg (a := 529 * (outOf ls 1).I) (b := (outOf ls 22).I) (c := 1000 * (outOf ls 2).I) (by omega) (by omega) (by omega)
      have nb := mulDiv_nonneg (a := wi - (outOf ls 2).I) (b := (outOf ls 22).I) (c := (outOf ls 2).I) (by omega) (by omega) (by omega)
      simp only [LV.Ii, mulDiv] at ea eb
      generalize outOf (F90 [.i (529 * (outOf ls 1).I), outOf ls 22, .i (1000 * (outOf ls 2).I)]) 0 = ya at *
      generalize outOf (F90 [.i (wi - (outOf ls 2).I), outOf ls 22, outOf ls 2]) 0 = yb at *
      generalize 529 * (outOf ls 1).I * (outOf ls 22).I / (1000 * (outOf ls 2).I) = va at *
      generalize (wi - (outOf ls 2).I) * (outOf ls 22).I / (outOf ls 2).I = vb at *
      rw [E71 (outOf ls 2) ya (by omega) (by omega), E71 (outOf ls 2) yb (by omega) (by omega), ea, eb]
      have hA := growA (b := (outOf ls 2).I) (va := va) (by omega) na
      have hB := fun x => growB (a := (outOf ls 2).I) (vb := vb) (x := x) (by omega) nb
      simp only [hA, hB, and_self]
    · rw [if_neg (fun h => hcw ((tf_t _).mp h))]
      simp only [begun, begun', Nat.reduceEqDiff, if_true, if_false, if_neg hcw, if_pos he', LV.Ii] at gf e28 ⊢
      simp only [out22, out22b, grown, if_neg hcw, if_pos he', begun, begun', Nat.reduceEqDiff, if_true, if_false, setE_lt, setE_hit, Nat.reduceLT, Nat.reduceLeDiff, Nat.reduceAdd, Nat.reduceSub, outOf_z, outOf_s, LV.Ii, LV.Bb, LV.Ll, and_true, true_and]
      obtain ⟨⟨wt, ht⟩, w1, w2, w3, hc, hm, hw⟩ := gf
      simp only [wt, w1, w2, w3, e28, E70, LV.Ii]
      have hwr := clampI_range (curveI (outOf ls 1).I (outOf ls 2).I 0 ((max 0 ((outOf ls 23).I - (outOf ls 23).I) + (outOf ls 24).I) / 1000)) (l := (outOf ls 2).I) (h := (outOf ls 2).I + (outOf ls 2).I / 2) (by omega)
      refine ⟨ht, ?_⟩
      generalize clampI (curveI (outOf ls 1).I (outOf ls 2).I 0 ((max 0 ((outOf ls 23).I - (outOf ls 23).I) + (outOf ls 24).I) / 1000)) (outOf ls 2).I ((outOf ls 2).I + (outOf ls 2).I / 2) = wi at *
      have w4 : IntKind.i64.wrap (wi - (outOf ls 2).I) = wi - (outOf ls 2).I := wrap_i64 (by omega) (by omega)
      simp only [w4]
      refine ⟨R90_ok _ _ _ (by simp only [LV.Ii]; omega) (by omega) (by omega), R90_ok _ _ _ (by simp only [LV.Ii]; omega) (by omega) (by simp only [LV.Ii]; omega), ?_⟩
      have ea := E90 (.i (529 * (outOf ls 1).I)) (outOf ls 22) (.i (1000 * (outOf ls 2).I)) (by simp only [LV.Ii]; omega) (by omega) (by simp only [LV.Ii]; omega)
      have eb := E90 (.i (wi - (outOf ls 2).I)) (outOf ls 22) (outOf ls 2) (by simp only [LV.Ii]; omega) (by omega) (by omega)
      have na := mulDiv_nonneg (a := 529 * (outOf ls 1).I) (b := (outOf ls 22).I) (c := 1000 * (outOf ls 2).I) (by omega) (by omega) (by omega)
      have nb := mulDiv_nonneg (a := wi - (outOf ls 2).I) (b := (outOf ls 22).I) (c := (outOf ls 2).I) (by omega) (by omega) (by omega)
      simp only [LV.Ii, mulDiv] at ea eb
      generalize outOf (F90 [.i (529 * (outOf ls 1).I), outOf ls 22, .i (1000 * (outOf ls 2).I)]) 0 = ya at *
      generalize outOf (F90 [.i (wi - (outOf ls 2).I), outOf ls 22, outOf ls 2]) 0 = yb at *
      generalize 529 * (outOf ls 1).I * (outOf ls 22).I / (1000 * (outOf ls 2).I) = va at *
      generalize (wi - (outOf ls 2).I) * (outOf ls 22).I / (outOf ls 2).I = vb at *
      rw [E71 (outOf ls 2) ya (by omega) (by omega), E71 (outOf ls 2) yb (by omega) (by omega), ea, eb]
      have hA := growA (b := (outOf ls 2).I) (va := va) (by omega) na
      have hB := fun x => growB (a := (outOf ls 2).I) (vb := vb) (x := x) (by omega) nb
      simp only [hA, hB, and_self]
  · rw [if_neg (fun h => he ((tf_t _).mp h))]
    have gf := grow_facts (n := (outOf ls 22).I) (now := (outOf ls 23).I) (srtt := (outOf ls 24).I) hok hn hnow hs
    have e28 := fun t => E28 (outOf ls) t hok
    have he' : ¬ (outOf ls 6).I < 0 := by omega
    simp only [begun', if_neg he']
    simp only [out22, out22b, grown, Nat.reduceEqDiff, if_true, if_false, setE_lt, setE_hit, Nat.reduceLT, Nat.reduceLeDiff, Nat.reduceAdd, Nat.reduceSub, outOf_z, outOf_s, LV.Ii, LV.Bb, LV.Ll, and_true, true_and]
    obtain ⟨⟨wt, ht⟩, w1, w2, w3, hc, hm, hw⟩ := gf
    simp only [wt, w1, w2, w3, e28, E70, LV.Ii]
    have hwr := clampI_range (curveI (outOf ls 1).I (outOf ls 5).I (outOf ls 7).I ((max 0 ((outOf ls 23).I - (outOf ls 6).I) + (outOf ls 24).I) / 1000)) (l := (outOf ls 2).I) (h := (outOf ls 2).I + (outOf ls 2).I / 2) (by omega)
    refine ⟨ht, ?_⟩
    generalize clampI (curveI (outOf ls 1).I (outOf ls 5).I (outOf ls 7).I ((max 0 ((outOf ls 23).I - (outOf ls 6).I) + (outOf ls 24).I) / 1000)) (outOf ls 2).I ((outOf ls 2).I + (outOf ls 2).I / 2) = wi at *
    have w4 : IntKind.i64.wrap (wi - (outOf ls 2).I) = wi - (outOf ls 2).I := wrap_i64 (by omega) (by omega)
    simp only [w4]
    refine ⟨R90_ok _ _ _ (by simp only [LV.Ii]; omega) (by omega) (by omega), R90_ok _ _ _ (by simp only [LV.Ii]; omega) (by omega) (by simp only [LV.Ii]; omega), ?_⟩
    have ea := E90 (.i (529 * (outOf ls 1).I)) (outOf ls 22) (.i (1000 * (outOf ls 2).I)) (by simp only [LV.Ii]; omega) (by omega) (by simp only [LV.Ii]; omega)
    have eb := E90 (.i (wi - (outOf ls 2).I)) (outOf ls 22) (outOf ls 2) (by simp only [LV.Ii]; omega) (by omega) (by omega)
    have na := mulDiv_nonneg (a := 529 * (outOf ls 1).I) (b := (outOf ls 22).I) (c := 1000 * (outOf ls 2).I) (by omega) (by omega) (by omega)
    have nb := mulDiv_nonneg (a := wi - (outOf ls 2).I) (b := (outOf ls 22).I) (c := (outOf ls 2).I) (by omega) (by omega) (by omega)
    simp only [LV.Ii, mulDiv] at ea eb
    generalize outOf (F90 [.i (529 * (outOf ls 1).I), outOf ls 22, .i (1000 * (outOf ls 2).I)]) 0 = ya at *
    generalize outOf (F90 [.i (wi - (outOf ls 2).I), outOf ls 22, outOf ls 2]) 0 = yb at *
    generalize 529 * (outOf ls 1).I * (outOf ls 22).I / (1000 * (outOf ls 2).I) = va at *
    generalize (wi - (outOf ls 2).I) * (outOf ls 22).I / (outOf ls 2).I = vb at *
    rw [E71 (outOf ls 8) ya (by omega) (by omega), E71 (outOf ls 2) yb (by omega) (by omega), ea, eb]
    have hA := growA (b := (outOf ls 8).I) (va := va) (by omega) na
    have hB := fun x => growB (a := (outOf ls 2).I) (vb := vb) (x := x) (by omega) nb
    simp only [hA, hB, and_self]
end Go.Proofs.Ythhnnfmfeofknaa.Sy
