/-
  cubic: whether a controller may be, the curve: the program's and the reference's are the same numbers.
-/
import Derived.Test.YthhnnfmfeofknaaCi
namespace Go.Proofs.Ythhnnfmfeofknaa.Sy
open Go Go.RowKit
set_option linter.unusedSimpArgs false
set_option linter.unusedVariables false

abbrev F68 := F90
abbrev R68 := R90
theorem Lhd (a : LV) : [a :: [([] : List LV)].headD []] = [[a]] := rfl
theorem choose230 {C : Bool} {P : Prop} [Decidable P] (h : C = true ↔ ¬ P) : if C = true then (230 : Int) = (if P then 0 else 230) ∧ True else (0 : Int) = (if P then 0 else 230) ∧ True := by
  by_cases hp : P
  · rw [if_pos hp, if_neg (fun hc => h.1 hc hp)]; exact ⟨rfl, trivial⟩
  · rw [if_neg hp, if_pos (h.2 hp)]; exact ⟨rfl, trivial⟩

/-! tideway/cubic.Check -/
def s26 : Sig := ⟨26, 26, [.agg [I64, I64, I64, I64, I64, I64, I64, I64, I64, I64, I64, (.sl [(.int .i64), (.int .i64)]), I64, I64, I64, I64, I64, I64, I64, I64, I64, I64]], [.col I64]⟩
def t26 : Tr (List (Col × E)) :=
 (.item (.bind 72 [(.ki (1)), (.v 1), (.v 2), (.v 3), (.v 4), (.ki (0)), (.ki (0)), (.ki (0)), (.ki (0)), (.ki (0)), (.v 10), (.v 11), (.v 12), (.v 13), (.v 14), (.v 15), (.v 16), (.v 17), (.v 18), (.v 19), (.v 20), (.v 21)] 22 1)
 (.item (.bind 64 [(.op2 .cat (.op2 .rcons (.v 5) .rnil) (.op2 .cat (.op2 .rcons (.v 8) .rnil) (.op2 .cat (.op2 .rcons (.v 9) .rnil) .lnil)))] 23 1)
 (.item (.pre (.op1 .not (.op1 .not (.op2 .eq (.v 0) (.ki (2))))) 72 [(.ki (1)), (.v 1), (.v 2), (.v 3), (.v 4), (.ki (0)), (.ki (0)), (.ki (0)), (.ki (0)), (.ki (0)), (.v 10), (.v 11), (.v 12), (.v 13), (.v 14), (.v 15), (.v 16), (.v 17), (.v 18), (.v 19), (.v 20), (.v 21)])
 (.item (.pre (.op1 .not (.op2 .or (.op1 .not (.op2 .eq (.v 0) (.ki (2)))) (.op1 .not (.op2 .eq (.v 22) (.ki (0)))))) 64 [(.op2 .cat (.op2 .rcons (.v 5) .rnil) (.op2 .cat (.op2 .rcons (.v 8) .rnil) (.op2 .cat (.op2 .rcons (.v 9) .rnil) .lnil)))])
 (.ite (.op2 .or (.op2 .or (.op2 .or (.op2 .or (.op2 .or (.op2 .or (.op1 .not (.op2 .eq (.v 0) (.ki (2)))) (.op1 .not (.op2 .eq (.v 22) (.ki (0))))) (.op1 .not (.v 23))) (.op2 .lt (.v 7) (.ki (0)))) (.op2 .lt (.ki (2097151)) (.v 7))) (.op2 .lt (.v 6) (.ki (-1)))) (.op2 .lt (.ki (1125899906842624)) (.v 6)))
 (.leaf [(I64, (.ki (230)))])
 (.leaf [(I64, (.ki (0)))]))))))
theorem c26 : compile Go.Proofs.Try.prog [s64, s72] Go.Proofs.Try.f26 s26.params s26.results = some t26 := by kernel_rfl
def L26 : List (Nat × (List LV → List LV)) := [(64, F64), (72, F72)]
def M26 : List (Nat × (List LV → Prop)) := [(64, R64)]
theorem h26 : ∀ sg, sg ∈ [s64, s72] → ConOk Go.Proofs.Try.prog (ap L26) (apR M26) sg := by
  intro sg h
  simp only [List.mem_cons, List.not_mem_nil, or_false] at h
  rcases h with rfl | rfl
  · exact k64.to rfl rfl
  · exact k72.to rfl rfl
def F26 (ls : List LV) : List LV := [.i (if CubicOk (outOf ls) then 0 else 230)]
set_option maxRecDepth 100000 in
theorem k26 : Kon Go.Proofs.Try.prog s26 F26 (fun _ => True) := by
  refine con_ok h26 (by kernel_rfl) Go.Proofs.Try.func26 (by kernel_rfl) c26 ?_
  intro ls _ _
  simp only [F26, outOf_z, LV.Ii]
  simp only [t26, Tr.den, L26, M26, ap, apR, if_true, Nat.reduceEqDiff, if_false, List.map_cons, List.map_nil, E.den, O1.ev, ev_add, ev_sub, ev_mul, ev_quo, ev_rem, ev_mx, ev_mn, ev_shl, ev_shr, ev_bit, ev_lt, ev_le, ev_eq, ev_and, ev_or, ev_eqb, ev_cat, ev_rcons, ev_rd, SameL, Col.same]
  simp only [setE_lt, setE_hit, Nat.reduceLT, Nat.reduceLeDiff, Nat.reduceAdd, Nat.reduceSub]
  simp only [LV.Ll, List.headD_cons, List.cons_append, List.nil_append]
  simp only [E72, E64c]
  refine ⟨fun _ => trivial, fun _ => by simp only [R64, outOf_z, LV.Ll, List.length_cons, List.length_nil]; omega, ?_⟩
  simp only [LV.Ii, LV.Bb, LV.Ll]
  refine choose230 ?_
  simp only [Bool.or_eq_true, Bool.and_eq_true, Bool.not_eq_true', tf_t, tf_f, Bool.or_eq_false_iff, Bool.and_eq_false_iff]
  simp only [RenoOk, CubicOk, Common, NoCubic, NoBbr, outOf_z, outOf_s, LV.Ii, true_and, and_true]
  split <;> omega
theorem E26 (ls : List LV) : (outOf (F26 ls) 0).I = if CubicOk (outOf ls) then 0 else 230 := by simp only [F26, outOf_z, LV.Ii]
theorem E26' (ls : List LV) (h : CubicOk (outOf ls)) : (outOf (F26 ls) 0).I = 0 := by rw [E26, if_pos h]
/-! tideway/tidewayref16.Check -/
def s27 : Sig := ⟨27, 27, [.agg [I64, I64, I64, I64, I64, I64, I64, I64, I64, I64, I64, (.sl [(.int .i64), (.int .i64)]), I64, I64, I64, I64, I64, I64, I64, I64, I64, I64]], [.col I64]⟩
def t27 : Tr (List (Col × E)) :=
 (.item (.bind 73 [(.v 0), (.v 1), (.v 2), (.v 3), (.v 4), (.v 5), (.v 6), (.v 7), (.v 8), (.v 9), (.v 10), (.v 11), (.v 12), (.v 13), (.v 14), (.v 15), (.v 16), (.v 17), (.v 18), (.v 19), (.v 20), (.v 21)] 22 1)
 (.item (.bind 74 [(.v 0), (.v 1), (.v 2), (.v 3), (.v 4), (.v 5), (.v 6), (.v 7), (.v 8), (.v 9), (.v 10), (.v 11), (.v 12), (.v 13), (.v 14), (.v 15), (.v 16), (.v 17), (.v 18), (.v 19), (.v 20), (.v 21), (.kb true), (.kb false)] 23 1)
 (.item (.pre (.op1 .not (.op1 .not (.op2 .eq (.v 0) (.ki (2))))) 73 [(.v 0), (.v 1), (.v 2), (.v 3), (.v 4), (.v 5), (.v 6), (.v 7), (.v 8), (.v 9), (.v 10), (.v 11), (.v 12), (.v 13), (.v 14), (.v 15), (.v 16), (.v 17), (.v 18), (.v 19), (.v 20), (.v 21)])
 (.item (.pre (.op1 .not (.op2 .or (.op1 .not (.op2 .eq (.v 0) (.ki (2)))) (.op1 .not (.v 22)))) 74 [(.v 0), (.v 1), (.v 2), (.v 3), (.v 4), (.v 5), (.v 6), (.v 7), (.v 8), (.v 9), (.v 10), (.v 11), (.v 12), (.v 13), (.v 14), (.v 15), (.v 16), (.v 17), (.v 18), (.v 19), (.v 20), (.v 21), (.kb true), (.kb false)])
 (.ite (.op2 .or (.op2 .or (.op1 .not (.op2 .eq (.v 0) (.ki (2)))) (.op1 .not (.v 22))) (.op1 .not (.v 23)))
 (.leaf [(I64, (.ki (230)))])
 (.item (.bind 66 [(.v 5)] 24 1)
 (.item (.bind 66 [(.v 8)] 25 1)
 (.item (.bind 66 [(.v 9)] 26 1)
 (.item (.pre (.kb true) 66 [(.v 5)])
 (.item (.pre (.op1 .not (.op1 .not (.v 24))) 66 [(.v 8)])
 (.item (.pre (.op1 .not (.op2 .or (.op1 .not (.v 24)) (.op1 .not (.v 25)))) 66 [(.v 9)])
 (.ite (.op2 .or (.op2 .or (.op2 .or (.op2 .or (.op2 .or (.op2 .or (.op1 .not (.v 24)) (.op1 .not (.v 25))) (.op1 .not (.v 26))) (.op2 .lt (.v 7) (.ki (0)))) (.op2 .lt (.ki (2097151)) (.v 7))) (.op2 .lt (.v 6) (.ki (-1)))) (.op2 .lt (.ki (1125899906842624)) (.v 6)))
  (.leaf [(I64, (.ki (230)))])
  (.leaf [(I64, (.ki (0)))])))))))))))))
theorem c27 : compile Go.Proofs.Try.prog [s66, s73, s74] Go.Proofs.Try.f27 s27.params s27.results = some t27 := by kernel_rfl
def L27 : List (Nat × (List LV → List LV)) := [(66, F66), (73, F73), (74, F74)]
def M27 : List (Nat × (List LV → Prop)) := []
theorem h27 : ∀ sg, sg ∈ [s66, s73, s74] → ConOk Go.Proofs.Try.prog (ap L27) (apR M27) sg := by
  intro sg h
  simp only [List.mem_cons, List.not_mem_nil, or_false] at h
  rcases h with rfl | rfl | rfl
  · exact k66.to rfl rfl
  · exact k73.to rfl rfl
  · exact k74.to rfl rfl
abbrev F27 := F26
set_option maxRecDepth 100000 in
theorem k27 : Kon Go.Proofs.Try.prog s27 F27 (fun _ => True) := by
  refine con_ok h27 (by kernel_rfl) Go.Proofs.Try.func27 (by kernel_rfl) c27 ?_
  intro ls _ _
  simp only [F27, F26, outOf_z, LV.Ii]
  simp only [t27, Tr.den, L27, M27, ap, apR, if_true, Nat.reduceEqDiff, if_false, List.map_cons, List.map_nil, E.den, O1.ev, ev_add, ev_sub, ev_mul, ev_quo, ev_rem, ev_mx, ev_mn, ev_shl, ev_shr, ev_bit, ev_lt, ev_le, ev_eq, ev_and, ev_or, ev_eqb, ev_cat, ev_rcons, ev_rd, SameL, Col.same]
  simp only [setE_lt, setE_hit, Nat.reduceLT, Nat.reduceLeDiff, Nat.reduceAdd, Nat.reduceSub]
  simp only [E73, E74, E66]
  refine ⟨fun _ => trivial, fun _ => trivial, ?_⟩
  simp only [LV.Ii, LV.Bb, LV.Ll]
  simp only [implies_true, true_and]
  by_cases h1 : (outOf ls 0).I = 2 ∧ Common (outOf ls) ∧ NoBbr (outOf ls)
  · rw [if_neg (by
      simp only [Bool.or_eq_true, Bool.and_eq_true, Bool.not_eq_true', tf_t, tf_f, Bool.or_eq_false_iff, Bool.and_eq_false_iff]
      simp only [Common, NoCubic, NoBbr, outOf_z, outOf_s] at h1 ⊢
      simp only [reduceCtorEq, false_implies, true_implies, true_and, and_true]
      omega)]
    refine choose230 ?_
    simp only [Bool.or_eq_true, Bool.and_eq_true, Bool.not_eq_true', tf_t, tf_f, Bool.or_eq_false_iff, Bool.and_eq_false_iff]
    simp only [CubicOk, Common, NoBbr] at h1 ⊢
    omega
  · rw [if_pos (by
      simp only [Bool.or_eq_true, Bool.and_eq_true, Bool.not_eq_true', tf_t, tf_f, Bool.or_eq_false_iff, Bool.and_eq_false_iff]
      simp only [Common, NoCubic, NoBbr, outOf_z, outOf_s] at h1 ⊢
      simp only [reduceCtorEq, false_implies, true_implies, true_and, and_true]
      omega)]
    rw [if_neg (fun h => h1 ⟨h.1, h.2.1, h.2.2.2.2⟩)]
    exact ⟨rfl, trivial⟩
/-! tideway/cubic.by -/
def s77 : Sig := ⟨77, 77, [.col I64, .col I64, .col I64], [.col I64]⟩
def t77 : Tr (List (Col × E)) :=
 (.item (.bind 90 [(.v 0), (.v 1), (.v 2)] 3 2)
 (.item (.pre (.kb true) 90 [(.v 0), (.v 1), (.v 2)])
 (.leaf [(I64, (.v 3))])))
theorem c77 : compile Go.Proofs.Try.prog [s90] Go.Proofs.Try.f77 s77.params s77.results = some t77 := by kernel_rfl
def L77 : List (Nat × (List LV → List LV)) := [(90, F90)]
def M77 : List (Nat × (List LV → Prop)) := [(90, R90)]
theorem h77 : ∀ sg, sg ∈ [s90] → ConOk Go.Proofs.Try.prog (ap L77) (apR M77) sg := by
  intro sg h
  simp only [List.mem_cons, List.not_mem_nil, or_false] at h
  rcases h with rfl
  · exact k90.to rfl rfl
def F77 (ls : List LV) : List LV := [outOf (F90 ls) 0]
abbrev R77 := R90
set_option maxRecDepth 100000 in
theorem k77 : Kon Go.Proofs.Try.prog s77 F77 R77 := by
  refine con_ok h77 (by kernel_rfl) Go.Proofs.Try.func77 (by kernel_rfl) c77 ?_
  intro ls _ hr
  simp only [F77, outOf_z]
  generalize hG : F90 ls = G
  simp only [t77, Tr.den, L77, M77, ap, apR, if_true, Nat.reduceEqDiff, if_false, List.map_cons, List.map_nil, E.den, O1.ev, ev_add, ev_sub, ev_mul, ev_quo, ev_rem, ev_mx, ev_mn, ev_shl, ev_shr, ev_bit, ev_lt, ev_le, ev_eq, ev_and, ev_or, ev_eqb, ev_cat, ev_rcons, ev_rd, SameL, Col.same]
  simp only [setE_lt, setE_hit, Nat.reduceLT, Nat.reduceLeDiff, Nat.reduceAdd, Nat.reduceSub]
  refine ⟨fun _ => hr, ?_, trivial⟩
  rw [← hG]
  rfl
theorem mulDivL_ok {a b c : Int} (ha : 0 ≤ a) (hb : 0 ≤ b) (hc : 0 < c) : mulDivL a b c = [.i (mulDiv a b c), .i 0] := by
  unfold mulDivL
  rw [if_neg (by omega)]
theorem E90 (x y z : LV) (ha : 0 ≤ x.I) (hb : 0 ≤ y.I) (hc : 0 < z.I) : (outOf (F90 [x, y, z]) 0).I = mulDiv x.I y.I z.I := by
  simp only [F90, outOf_z, outOf_s]
  rw [mulDivL_ok ha hb hc]
  simp only [outOf_z, LV.Ii]
theorem E77 (x y z : LV) (ha : 0 ≤ x.I) (hb : 0 ≤ y.I) (hc : 0 < z.I) : (outOf (F77 [x, y, z]) 0).I = mulDiv x.I y.I z.I := by
  simp only [F77, outOf_z]
  exact E90 x y z ha hb hc
theorem R90_ok (x y z : LV) (ha : x.I ≤ 9223372036854775807) (hb : y.I ≤ 9223372036854775807) (hc : z.I ≤ 9223372036854775807) : R90 [x, y, z] := by
  simp only [R90, outOf_z, outOf_s]
  exact ⟨ha, hb, hc⟩
theorem mulDiv_nonneg {a b c : Int} (ha : 0 ≤ a) (hb : 0 ≤ b) (hc : 0 < c) : 0 ≤ a * b / c := Int.ediv_nonneg (Int.mul_nonneg ha hb) (Int.le_of_lt hc)
/-! ### The curve -/
def curveI (mss wmax k t : Int) : Int :=
  let d := clampI (t - k) (-1000000) 1000000
  let a := max d (-d)
  let v := a * a * a * (4 * mss) / 10000000000
  clampI (if d < 0 then wmax - v else wmax + v) 0 1073741824
def F28 (ls : List LV) : List LV := [.i (if CubicOk (outOf ls) then curveI (outOf ls 1).I (outOf ls 5).I (outOf ls 7).I (outOf ls 22).I else 0)]
def R28 (ls : List LV) : Prop := In64 (outOf ls 22).I
theorem cubes {a : Int} (h0 : 0 ≤ a) (h1 : a ≤ 1000000) : (0 ≤ a * a ∧ a * a ≤ 1000000000000) ∧ 0 ≤ a * a * a ∧ a * a * a ≤ 1000000000000000000 := by
  have h2 : a * a ≤ 1000000 * 1000000 := Int.mul_le_mul h1 h1 h0 (by omega)
  have h3 : 0 ≤ a * a := Int.mul_nonneg h0 h0
  have h4 : a * a * a ≤ 1000000000000 * 1000000 := Int.mul_le_mul (by omega) h1 h0 (by omega)
  have h5 : 0 ≤ a * a * a := Int.mul_nonneg h3 h0
  omega

/-! tideway/cubic.Curve -/
def s28 : Sig := ⟨28, 28, [.agg [I64, I64, I64, I64, I64, I64, I64, I64, I64, I64, I64, (.sl [(.int .i64), (.int .i64)]), I64, I64, I64, I64, I64, I64, I64, I64, I64, I64], .col I64], [.col I64]⟩
def t28 : Tr (List (Col × E)) :=
 (.item (.bind 26 [(.v 0), (.v 1), (.v 2), (.v 3), (.v 4), (.v 5), (.v 6), (.v 7), (.v 8), (.v 9), (.v 10), (.v 11), (.v 12), (.v 13), (.v 14), (.v 15), (.v 16), (.v 17), (.v 18), (.v 19), (.v 20), (.v 21)] 23 1)
 (.item (.pre (.kb true) 26 [(.v 0), (.v 1), (.v 2), (.v 3), (.v 4), (.v 5), (.v 6), (.v 7), (.v 8), (.v 9), (.v 10), (.v 11), (.v 12), (.v 13), (.v 14), (.v 15), (.v 16), (.v 17), (.v 18), (.v 19), (.v 20), (.v 21)])
 (.ite (.op1 .not (.op2 .eq (.v 23) (.ki (0))))
 (.leaf [(I64, (.ki (0)))])
 (.item (.bind 76 [(.v 22), (.op1 (.wrap .i64) (.op2 .sub (.ki (0)) (.v 7)))] 24 1)
 (.item (.bind 75 [(.v 24), (.ki (-1000000)), (.ki (1000000))] 25 1)
 (.item (.pre (.kb true) 76 [(.v 22), (.op1 (.wrap .i64) (.op2 .sub (.ki (0)) (.v 7)))])
 (.item (.pre (.kb true) 75 [(.v 24), (.ki (-1000000)), (.ki (1000000))])
 (.item (.bind 77 [(.op1 (.wrap .i64) (.op2 .mul (.op1 (.wrap .i64) (.op2 .mul (.op2 .mx (.v 25) (.op1 (.wrap .i64) (.op2 .sub (.ki (0)) (.v 25)))) (.op2 .mx (.v 25) (.op1 (.wrap .i64) (.op2 .sub (.ki (0)) (.v 25)))))) (.op2 .mx (.v 25) (.op1 (.wrap .i64) (.op2 .sub (.ki (0)) (.v 25)))))), (.op1 (.wrap .i64) (.op2 .mul (.ki (4)) (.v 1))), (.ki (10000000000))] 26 1)
 (.item (.pre (.kb true) 77 [(.op1 (.wrap .i64) (.op2 .mul (.op1 (.wrap .i64) (.op2 .mul (.op2 .mx (.v 25) (.op1 (.wrap .i64) (.op2 .sub (.ki (0)) (.v 25)))) (.op2 .mx (.v 25) (.op1 (.wrap .i64) (.op2 .sub (.ki (0)) (.v 25)))))) (.op2 .mx (.v 25) (.op1 (.wrap .i64) (.op2 .sub (.ki (0)) (.v 25)))))), (.op1 (.wrap .i64) (.op2 .mul (.ki (4)) (.v 1))), (.ki (10000000000))])
 (.item (.bind 76 [(.v 5), (.iteI (.op2 .lt (.v 25) (.ki (0))) (.op1 (.wrap .i64) (.op2 .sub (.ki (0)) (.v 26))) (.v 26))] 27 1)
 (.item (.bind 75 [(.v 27), (.ki (0)), (.ki (1073741824))] 28 1)
 (.item (.pre (.kb true) 76 [(.v 5), (.iteI (.op2 .lt (.v 25) (.ki (0))) (.op1 (.wrap .i64) (.op2 .sub (.ki (0)) (.v 26))) (.v 26))])
 (.item (.pre (.kb true) 75 [(.v 27), (.ki (0)), (.ki (1073741824))])
 (.leaf [(I64, (.v 28))]))))))))))))))
theorem c28 : compile Go.Proofs.Try.prog [s26, s75, s76, s77] Go.Proofs.Try.f28 s28.params s28.results = some t28 := by kernel_rfl
def L28 : List (Nat × (List LV → List LV)) := [(26, F26), (75, F75), (76, F76), (77, F77)]
def M28 : List (Nat × (List LV → Prop)) := [(77, R77)]
theorem h28 : ∀ sg, sg ∈ [s26, s75, s76, s77] → ConOk Go.Proofs.Try.prog (ap L28) (apR M28) sg := by
  intro sg h
  simp only [List.mem_cons, List.not_mem_nil, or_false] at h
  rcases h with rfl | rfl | rfl | rfl
  · exact k26.to rfl rfl
  · exact k75.to rfl rfl
  · exact k76.to rfl rfl
  · exact k77.to rfl rfl
set_option maxRecDepth 100000 in
theorem k28 : Kon Go.Proofs.Try.prog s28 F28 R28 := by
  refine con_ok h28 (by kernel_rfl) Go.Proofs.Try.func28 (by kernel_rfl) c28 ?_
  intro ls _ hr
  simp only [F28, R28, outOf_z, LV.Ii] at hr ⊢
  simp only [t28, Tr.den, L28, M28, ap, apR, if_true, Nat.reduceEqDiff, if_false, List.map_cons, List.map_nil, E.den, O1.ev, ev_add, ev_sub, ev_mul, ev_quo, ev_rem, ev_mx, ev_mn, ev_shl, ev_shr, ev_bit, ev_lt, ev_le, ev_eq, ev_and, ev_or, ev_eqb, ev_cat, ev_rcons, ev_rd, SameL, Col.same]
  simp only [setE_lt, setE_hit, Nat.reduceLT, Nat.reduceLeDiff, Nat.reduceAdd, Nat.reduceSub]
  simp only [E26]
  have hcon : CubicOk (outOf [outOf ls 0, outOf ls 1, outOf ls 2, outOf ls 3, outOf ls 4, outOf ls 5, outOf ls 6, outOf ls 7, outOf ls 8, outOf ls 9, outOf ls 10, outOf ls 11, outOf ls 12, outOf ls 13, outOf ls 14, outOf ls 15, outOf ls 16, outOf ls 17, outOf ls 18, outOf ls 19, outOf ls 20, outOf ls 21]) ↔ CubicOk (outOf ls) := Iff.rfl
  simp only [hcon]
  clear hcon
  by_cases hok : CubicOk (outOf ls)
  case neg =>
    simp only [if_neg hok, LV.Ii, LV.Bb, LV.Ll]
    refine ⟨fun _ => trivial, ?_⟩
    rw [if_pos (by simp [tf_d])]
    simp only [outOf_z, LV.Ii, and_self]
  simp only [if_pos hok]
  obtain ⟨hk0, ⟨hm1, hm2, _⟩, ⟨⟨hw1, hw2⟩, _⟩, ⟨hk1, hk2, _⟩, _⟩ := hok
  simp only [LV.Ii, LV.Bb, LV.Ll]
  rw [if_neg (by simp [tf_d])]
  have wk : IntKind.i64.wrap (0 - (outOf ls 7).I) = -(outOf ls 7).I := by rw [wrap_i64 (by omega) (by omega)]; omega
  simp only [wk]
  simp only [E75, LV.Ii, implies_true, true_and]
  rw [E76 _ _ hr (by simp only [LV.Ii]; omega)]
  simp only [LV.Ii]
  have hd : clampI (sat ((outOf ls 22).I + -(outOf ls 7).I)) (-1000000) 1000000 = clampI ((outOf ls 22).I - (outOf ls 7).I) (-1000000) 1000000 := by unfold clampI sat; omega
  have hdr : -1000000 ≤ clampI ((outOf ls 22).I - (outOf ls 7).I) (-1000000) 1000000 ∧ clampI ((outOf ls 22).I - (outOf ls 7).I) (-1000000) 1000000 ≤ 1000000 := by unfold clampI; omega
  simp only [hd, curveI]
  generalize clampI ((outOf ls 22).I - (outOf ls 7).I) (-1000000) 1000000 = d at *
  have wd : IntKind.i64.wrap (0 - d) = -d := by rw [wrap_i64 (by omega) (by omega)]; omega
  simp only [wd]
  obtain ⟨a, ha⟩ : ∃ a, max d (-d) = a := ⟨_, rfl⟩
  simp only [ha]
  have ha0 : 0 ≤ a ∧ a ≤ 1000000 := by omega
  obtain ⟨⟨q1, q2⟩, q3, q4⟩ := cubes ha0.1 ha0.2
  have wm : IntKind.i64.wrap (4 * (outOf ls 1).I) = 4 * (outOf ls 1).I := wrap_i64 (by omega) (by omega)
  rw [wrap_i64 (n := a * a) (by omega) (by omega), wrap_i64 (n := a * a * a) (by omega) (by omega), wm]
  refine ⟨fun _ => R90_ok _ _ _ (by simp only [LV.Ii]; omega) (by simp only [LV.Ii]; omega) (by simp only [LV.Ii]; omega), ?_⟩
  rw [E77 _ _ _ (by simp only [LV.Ii]; omega) (by simp only [LV.Ii]; omega) (by simp only [LV.Ii]; omega)]
  simp only [LV.Ii, mulDiv]
  have hv := mulDiv_nonneg (a := a * a * a) (b := 4 * (outOf ls 1).I) (c := 10000000000) (by omega) (by omega) (by omega)
  generalize a * a * a * (4 * (outOf ls 1).I) / 10000000000 = v at *
  by_cases hdn : d < 0
  · have e1 : tf (d < 0) = true := by rw [tf_t]; exact hdn
    simp only [e1, if_true, if_pos hdn]
    rw [wrap_i64 (n := 0 - min v 9223372036854775807) (by omega) (by omega)]
    rw [E76 _ _ (by omega) (by simp only [LV.Ii]; omega)]
    simp only [LV.Ii, outOf_z, and_true]
    unfold clampI sat
    omega
  · have e1 : tf (d < 0) = false := by rw [tf_f]; exact hdn
    simp only [e1, Bool.false_eq_true, if_false, if_neg hdn]
    rw [E76 _ _ (by omega) (by simp only [LV.Ii]; omega)]
    simp only [LV.Ii, outOf_z, and_true]
    unfold clampI sat
    omega
end Go.Proofs.Ythhnnfmfeofknaa.Sy
