/-
  bbr: the further steps behind an acknowledgement, and the whole.
-/
import Derived.Test.YthhnnfmfeofknaaCu
namespace Go.Proofs.Ythhnnfmfeofknaa.Sy
open Go Go.RowKit
set_option linter.unusedSimpArgs false
set_option linter.unusedVariables false

abbrev Late (f : Nat → LV) (now : Int) : Prop := 0 < (f 12).I ∧ 10000000 < now - (f 13).I
def shortC (f : Nat → LV) (now rtt : LV) : Nat → LV := if 0 < rtt.I ∧ ((Late f now.I ∨ (f 12).I = 0) ∨ rtt.I ≤ (f 12).I) then fset (fset f 12 rtt) 13 now else f
def F99 (ls : List LV) : List LV := .b (decide (Late (outOf ls) (outOf ls 22).I)) :: l22 (shortC (outOf ls) (outOf ls 22) (outOf ls 24))
abbrev RS (ls : List LV) : Prop := BbrOk (outOf ls) ∧ Samp (outOf ls) 22
abbrev R99 := RS
/-! (*tideway/bbr.ctl).shortest -/
def s99 : Sig := ⟨99, 99, [.ptr true [I64, I64, I64, I64, I64, I64, I64, I64, I64, I64, I64, (.sl [(.int .i64), (.int .i64)]), I64, I64, I64, I64, I64, I64, I64, I64, I64, I64], .agg [I64, I64, I64, I64, (.base .bool), I64, I64, I64]], [.col (.base .bool)]⟩
def t99 : Tr (List (Col × E)) :=
 (.leaf [((.base .bool), (.op2 .and (.op2 .lt (.ki (0)) (.v 12)) (.op2 .lt (.ki (10000000)) (.op1 (.wrap .i64) (.op2 .sub (.v 22) (.v 13)))))), (I64, (.v 0)), (I64, (.v 1)), (I64, (.v 2)), (I64, (.v 3)), (I64, (.v 4)), (I64, (.v 5)), (I64, (.v 6)), (I64, (.v 7)), (I64, (.v 8)), (I64, (.v 9)), (I64, (.v 10)), ((.sl [(.int .i64), (.int .i64)]), (.v 11)), (I64, (.iteI (.op2 .and (.op2 .lt (.ki (0)) (.v 24)) (.op2 .or (.op2 .or (.op2 .and (.op2 .lt (.ki (0)) (.v 12)) (.op2 .lt (.ki (10000000)) (.op1 (.wrap .i64) (.op2 .sub (.v 22) (.v 13))))) (.op2 .eq (.v 12) (.ki (0)))) (.op2 .le (.v 24) (.v 12)))) (.v 24) (.v 12))), (I64, (.iteI (.op2 .and (.op2 .lt (.ki (0)) (.v 24)) (.op2 .or (.op2 .or (.op2 .and (.op2 .lt (.ki (0)) (.v 12)) (.op2 .lt (.ki (10000000)) (.op1 (.wrap .i64) (.op2 .sub (.v 22) (.v 13))))) (.op2 .eq (.v 12) (.ki (0)))) (.op2 .le (.v 24) (.v 12)))) (.v 22) (.v 13))), (I64, (.v 14)), (I64, (.v 15)), (I64, (.v 16)), (I64, (.v 17)), (I64, (.v 18)), (I64, (.v 19)), (I64, (.v 20)), (I64, (.v 21))])
theorem c99 : compile Go.Proofs.Try.prog [] Go.Proofs.Try.f99 s99.params s99.results = some t99 := by kernel_rfl
def L99 : List (Nat × (List LV → List LV)) := []
def M99 : List (Nat × (List LV → Prop)) := []
theorem h99 : ∀ sg, sg ∈ ([] : List Sig) → ConOk Go.Proofs.Try.prog (ap L99) (apR M99) sg := fun _ h => absurd h (List.not_mem_nil)
set_option maxRecDepth 100000 in
theorem k99 : Kon Go.Proofs.Try.prog s99 F99 R99 := by
  refine con_ok h99 (by kernel_rfl) Go.Proofs.Try.func99 (by kernel_rfl) c99 ?_
  intro ls _ hr
  obtain ⟨hok, hs⟩ := hr
  simp only [t99, Tr.den, L99, M99, ap, apR, if_true, Nat.reduceEqDiff, if_false, List.map_cons, List.map_nil, E.den, O1.ev, ev_add, ev_sub, ev_mul, ev_quo, ev_rem, ev_mx, ev_mn, ev_shl, ev_shr, ev_bit, ev_lt, ev_le, ev_eq, ev_and, ev_or, ev_eqb, ev_cat, ev_rcons, ev_rd, SameL, Col.same]
  simp only [setE_lt, setE_hit, Nat.reduceLT, Nat.reduceLeDiff, Nat.reduceAdd, Nat.reduceSub]
  simp only [LV.Ii, LV.Bb, LV.Ll]
  obtain ⟨_, ⟨h12, h13, _⟩, _⟩ := b_nums hok
  have hnow := hs.1
  have w1 : IntKind.i64.wrap ((outOf ls 22).I - (outOf ls 13).I) = (outOf ls 22).I - (outOf ls 13).I := wrap_i64 (by unfold TimeI at *; omega) (by unfold TimeI at *; omega)
  simp only [w1, F99, outOf_z, outOf_s, LV.Bb]
  refine ⟨?_, ?_⟩
  · rw [← tf_d, ← Bool.coe_iff_coe]
    simp only [Bool.or_eq_true, Bool.and_eq_true, Bool.not_eq_true', tf_t, tf_f, Bool.or_eq_false_iff, Bool.and_eq_false_iff]
  · by_cases hc : 0 < (outOf ls 24).I ∧ ((Late (outOf ls) (outOf ls 22).I ∨ (outOf ls 12).I = 0) ∨ (outOf ls 24).I ≤ (outOf ls 12).I)
    · have e : (tf (0 < (outOf ls 24).I) && ((tf (0 < (outOf ls 12).I) && tf (10000000 < (outOf ls 22).I - (outOf ls 13).I) || tf ((outOf ls 12).I = 0)) || tf ((outOf ls 24).I ≤ (outOf ls 12).I))) = true := by
        simp only [Bool.or_eq_true, Bool.and_eq_true, Bool.not_eq_true', tf_t, tf_f, Bool.or_eq_false_iff, Bool.and_eq_false_iff]; exact hc
      simp only [e, if_true, shortC, if_pos hc]
      simp only [out22, out22', out22b, out22z, out22zb, zeroF, fset, implies_true, Nat.reduceEqDiff, if_true, if_false, setE_lt, setE_hit, Nat.reduceLT, Nat.reduceLeDiff, Nat.reduceAdd, Nat.reduceSub, outOf_z, outOf_s, LV.Ii, LV.Bb, LV.Ll, and_true, and_self, true_and]
    · have e : (tf (0 < (outOf ls 24).I) && ((tf (0 < (outOf ls 12).I) && tf (10000000 < (outOf ls 22).I - (outOf ls 13).I) || tf ((outOf ls 12).I = 0)) || tf ((outOf ls 24).I ≤ (outOf ls 12).I))) = false := by
        rw [Bool.eq_false_iff]
        intro h
        simp only [Bool.or_eq_true, Bool.and_eq_true, Bool.not_eq_true', tf_t, tf_f, Bool.or_eq_false_iff, Bool.and_eq_false_iff] at h
        exact hc h
      simp only [e, Bool.false_eq_true, if_false, shortC, if_neg hc]
      simp only [out22, out22', out22b, out22z, out22zb, zeroF, fset, implies_true, Nat.reduceEqDiff, if_true, if_false, setE_lt, setE_hit, Nat.reduceLT, Nat.reduceLeDiff, Nat.reduceAdd, Nat.reduceSub, outOf_z, outOf_s, LV.Ii, LV.Bb, LV.Ll, and_true, and_self, true_and]
def fullC (f : Nat → LV) : Nat → LV :=
  if bwI (f 11).L = 0 then f
  else if 5 * (f 16).I ≤ 4 * bwI (f 11).L then fset (fset f 16 (.i (bwI (f 11).L))) 17 (.i 0)
  else fset (fset f 17 (.i (min 3 ((f 17).I + 1)))) 10 (.i (if min 3 ((f 17).I + 1) = 3 then 2 else (f 10).I))
def F100 (ls : List LV) : List LV := l22 (fullC (outOf ls))
def R100 (ls : List LV) : Prop := BbrOk (outOf ls)
/-! (*tideway/bbr.ctl).full -/
def s100 : Sig := ⟨100, 100, [.ptr true [I64, I64, I64, I64, I64, I64, I64, I64, I64, I64, I64, (.sl [(.int .i64), (.int .i64)]), I64, I64, I64, I64, I64, I64, I64, I64, I64, I64]], []⟩
def t100 : Tr (List (Col × E)) :=
 (.item (.bind 104 [(.v 0), (.v 1), (.v 2), (.v 3), (.v 4), (.v 5), (.v 6), (.v 7), (.v 8), (.v 9), (.v 10), (.v 11), (.v 12), (.v 13), (.v 14), (.v 15), (.v 16), (.v 17), (.v 18), (.v 19), (.v 20), (.v 21)] 22 1)
 (.item (.pre (.kb true) 104 [(.v 0), (.v 1), (.v 2), (.v 3), (.v 4), (.v 5), (.v 6), (.v 7), (.v 8), (.v 9), (.v 10), (.v 11), (.v 12), (.v 13), (.v 14), (.v 15), (.v 16), (.v 17), (.v 18), (.v 19), (.v 20), (.v 21)])
 (.leaf [(I64, (.v 0)), (I64, (.v 1)), (I64, (.v 2)), (I64, (.v 3)), (I64, (.v 4)), (I64, (.v 5)), (I64, (.v 6)), (I64, (.v 7)), (I64, (.v 8)), (I64, (.v 9)), (I64, (.iteI (.op2 .eq (.v 22) (.ki (0))) (.v 10) (.iteI (.op2 .le (.op1 (.wrap .i64) (.op2 .mul (.ki (5)) (.v 16))) (.op1 (.wrap .i64) (.op2 .mul (.ki (4)) (.v 22)))) (.v 10) (.iteI (.op2 .eq (.op2 .mn (.ki (3)) (.op1 (.wrap .i64) (.op2 .add (.v 17) (.ki (1))))) (.ki (3))) (.ki (2)) (.v 10))))), ((.sl [(.int .i64), (.int .i64)]), (.v 11)), (I64, (.v 12)), (I64, (.v 13)), (I64, (.v 14)), (I64, (.v 15)), (I64, (.iteI (.op2 .eq (.v 22) (.ki (0))) (.v 16) (.iteI (.op2 .le (.op1 (.wrap .i64) (.op2 .mul (.ki (5)) (.v 16))) (.op1 (.wrap .i64) (.op2 .mul (.ki (4)) (.v 22)))) (.v 22) (.v 16)))), (I64, (.iteI (.op2 .eq (.v 22) (.ki (0))) (.v 17) (.iteI (.op2 .le (.op1 (.wrap .i64) (.op2 .mul (.ki (5)) (.v 16))) (.op1 (.wrap .i64) (.op2 .mul (.ki (4)) (.v 22)))) (.ki (0)) (.op2 .mn (.ki (3)) (.op1 (.wrap .i64) (.op2 .add (.v 17) (.ki (1)))))))), (I64, (.v 18)), (I64, (.v 19)), (I64, (.v 20)), (I64, (.v 21))])))
theorem c100 : compile Go.Proofs.Try.prog [s104] Go.Proofs.Try.f100 s100.params s100.results = some t100 := by kernel_rfl
def L100 : List (Nat × (List LV → List LV)) := [(104, F104)]
def M100 : List (Nat × (List LV → Prop)) := []
theorem h100 : ∀ sg, sg ∈ [s104] → ConOk Go.Proofs.Try.prog (ap L100) (apR M100) sg := by
  intro sg h
  simp only [List.mem_cons, List.not_mem_nil, or_false] at h
  rcases h with rfl
  · exact k104.to rfl rfl
set_option maxRecDepth 100000 in
theorem k100 : Kon Go.Proofs.Try.prog s100 F100 R100 := by
  refine con_ok h100 (by kernel_rfl) Go.Proofs.Try.func100 (by kernel_rfl) c100 ?_
  intro ls _ hr
  simp only [R100] at hr
  simp only [t100, Tr.den, L100, M100, ap, apR, if_true, Nat.reduceEqDiff, if_false, List.map_cons, List.map_nil, E.den, O1.ev, ev_add, ev_sub, ev_mul, ev_quo, ev_rem, ev_mx, ev_mn, ev_shl, ev_shr, ev_bit, ev_lt, ev_le, ev_eq, ev_and, ev_or, ev_eqb, ev_cat, ev_rcons, ev_rd, SameL, Col.same]
  simp only [setE_lt, setE_hit, Nat.reduceLT, Nat.reduceLeDiff, Nat.reduceAdd, Nat.reduceSub]
  simp only [E104 (outOf ls)]
  simp only [LV.Ii, LV.Bb, LV.Ll]
  have hb := bw_range hr
  obtain ⟨_, _, h16, h17, _⟩ := b_nums hr
  simp only [F100]
  generalize hB : bwI (outOf ls 11).L = b at *
  have w1 : IntKind.i64.wrap (5 * (outOf ls 16).I) = 5 * (outOf ls 16).I := wrap_i64 (by omega) (by omega)
  have w2 : IntKind.i64.wrap (4 * b) = 4 * b := wrap_i64 (by omega) (by omega)
  have w3 : IntKind.i64.wrap ((outOf ls 17).I + 1) = (outOf ls 17).I + 1 := wrap_i64 (by omega) (by omega)
  simp only [w1, w2, w3, tf_t, fullC, hB]
  refine ⟨fun _ => trivial, ?_⟩
  by_cases h1 : b = 0
  · simp only [if_pos h1]
    simp only [out22, out22', out22b, out22z, out22zb, zeroF, fset, implies_true, Nat.reduceEqDiff, if_true, if_false, setE_lt, setE_hit, Nat.reduceLT, Nat.reduceLeDiff, Nat.reduceAdd, Nat.reduceSub, outOf_z, outOf_s, LV.Ii, LV.Bb, LV.Ll, and_true, and_self, true_and]
  simp only [if_neg h1]
  by_cases h2 : 5 * (outOf ls 16).I ≤ 4 * b
  · simp only [if_pos h2]
    simp only [out22, out22', out22b, out22z, out22zb, zeroF, fset, implies_true, Nat.reduceEqDiff, if_true, if_false, setE_lt, setE_hit, Nat.reduceLT, Nat.reduceLeDiff, Nat.reduceAdd, Nat.reduceSub, outOf_z, outOf_s, LV.Ii, LV.Bb, LV.Ll, and_true, and_self, true_and]
  simp only [if_neg h2]
  simp only [out22, out22', out22b, out22z, out22zb, zeroF, fset, implies_true, Nat.reduceEqDiff, if_true, if_false, setE_lt, setE_hit, Nat.reduceLT, Nat.reduceLeDiff, Nat.reduceAdd, Nat.reduceSub, outOf_z, outOf_s, LV.Ii, LV.Bb, LV.Ll, and_true, and_self, true_and]
def holdI (f : Nat → LV) : Int := min 1073741824 (mulDiv (bwI (f 11).L) (f 12).I 1000000)
def F117 (ls : List LV) : List LV := [.i (holdI (outOf ls))]
def R117 (ls : List LV) : Prop := BbrOk (outOf ls)
/-! (*tideway/bbr.ctl).product -/
def s117 : Sig := ⟨117, 117, [.ptr false [I64, I64, I64, I64, I64, I64, I64, I64, I64, I64, I64, (.sl [(.int .i64), (.int .i64)]), I64, I64, I64, I64, I64, I64, I64, I64, I64, I64]], [.col I64]⟩
def t117 : Tr (List (Col × E)) :=
 (.item (.bind 104 [(.v 0), (.v 1), (.v 2), (.v 3), (.v 4), (.v 5), (.v 6), (.v 7), (.v 8), (.v 9), (.v 10), (.v 11), (.v 12), (.v 13), (.v 14), (.v 15), (.v 16), (.v 17), (.v 18), (.v 19), (.v 20), (.v 21)] 22 1)
 (.item (.bind 90 [(.v 22), (.v 12), (.ki (1000000))] 23 2)
 (.item (.pre (.kb true) 104 [(.v 0), (.v 1), (.v 2), (.v 3), (.v 4), (.v 5), (.v 6), (.v 7), (.v 8), (.v 9), (.v 10), (.v 11), (.v 12), (.v 13), (.v 14), (.v 15), (.v 16), (.v 17), (.v 18), (.v 19), (.v 20), (.v 21)])
 (.item (.pre (.kb true) 90 [(.v 22), (.v 12), (.ki (1000000))])
 (.leaf [(I64, (.op2 .mn (.ki (1073741824)) (.v 23)))])))))
theorem c117 : compile Go.Proofs.Try.prog [s90, s104] Go.Proofs.Try.f117 s117.params s117.results = some t117 := by kernel_rfl
def L117 : List (Nat × (List LV → List LV)) := [(90, F90), (104, F104)]
def M117 : List (Nat × (List LV → Prop)) := [(90, R90)]
theorem h117 : ∀ sg, sg ∈ [s90, s104] → ConOk Go.Proofs.Try.prog (ap L117) (apR M117) sg := by
  intro sg h
  simp only [List.mem_cons, List.not_mem_nil, or_false] at h
  rcases h with rfl | rfl
  · exact k90.to rfl rfl
  · exact k104.to rfl rfl
set_option maxRecDepth 100000 in
theorem k117 : Kon Go.Proofs.Try.prog s117 F117 R117 := by
  refine con_ok h117 (by kernel_rfl) Go.Proofs.Try.func117 (by kernel_rfl) c117 ?_
  intro ls _ hr
  simp only [R117] at hr
  simp only [t117, Tr.den, L117, M117, ap, apR, if_true, Nat.reduceEqDiff, if_false, List.map_cons, List.map_nil, E.den, O1.ev, ev_add, ev_sub, ev_mul, ev_quo, ev_rem, ev_mx, ev_mn, ev_shl, ev_shr, ev_bit, ev_lt, ev_le, ev_eq, ev_and, ev_or, ev_eqb, ev_cat, ev_rcons, ev_rd, SameL, Col.same]
  simp only [setE_lt, setE_hit, Nat.reduceLT, Nat.reduceLeDiff, Nat.reduceAdd, Nat.reduceSub]
  have hb := bw_range hr
  obtain ⟨_, ⟨h12, _⟩, _⟩ := b_nums hr
  unfold TimeI at h12
  simp only [LV.Ii, LV.Bb, LV.Ll]
  refine ⟨fun _ => trivial, fun _ => R90_ok _ _ _ (by rw [E104 (outOf ls)]; omega) (by omega) (by simp only [LV.Ii]; omega), ?_⟩
  rw [E90 _ _ _ (by rw [E104 (outOf ls)]; omega) (by omega) (by simp only [LV.Ii]; omega), E104 (outOf ls)]
  simp only [F117, holdI, outOf_z, LV.Ii, and_self]
theorem E117 (ρ : Nat → LV) : (outOf (F117 [ρ 0, ρ 1, ρ 2, ρ 3, ρ 4, ρ 5, ρ 6, ρ 7, ρ 8, ρ 9, ρ 10, ρ 11, ρ 12, ρ 13, ρ 14, ρ 15, ρ 16, ρ 17, ρ 18, ρ 19, ρ 20, ρ 21]) 0).I = holdI ρ := by
  simp only [F117, outOf_z, LV.Ii]
  rfl
theorem prod_range {f : Nat → LV} (h : BbrOk f) : 0 ≤ holdI f ∧ holdI f ≤ 1073741824 := by
  have hb := bw_range h
  obtain ⟨_, ⟨h12, _⟩, _⟩ := b_nums h
  have := mulDiv_nonneg (a := bwI (f 11).L) (b := (f 12).I) (c := 1000000) hb.1 h12.1 (by omega)
  unfold holdI mulDiv
  omega
def probeC (f : Nat → LV) (now : LV) : Nat → LV := fset (fset (fset f 10 (.i 3)) 18 (.i 2)) 19 now
def FN119 (ls : List LV) : List LV := l22 (probeC (outOf ls) (outOf ls 22))
theorem kN119 : Kon Go.Proofs.Try.prog s119 FN119 (fun _ => True) := by
  refine con_ok h119 (by kernel_rfl) Go.Proofs.Try.func119 (by kernel_rfl) c119 ?_
  intro ls _ hr
  simp only [t119, Tr.den, L119, M119, ap, apR, if_true, Nat.reduceEqDiff, if_false, List.map_cons, List.map_nil, E.den, O1.ev, ev_add, ev_sub, ev_mul, ev_quo, ev_rem, ev_mx, ev_mn, ev_shl, ev_shr, ev_bit, ev_lt, ev_le, ev_eq, ev_and, ev_or, ev_eqb, ev_cat, ev_rcons, ev_rd, SameL, Col.same]
  simp only [setE_lt, setE_hit, Nat.reduceLT, Nat.reduceLeDiff, Nat.reduceAdd, Nat.reduceSub]
  simp only [LV.Ii, LV.Bb, LV.Ll]
  simp only [FN119, probeC]
  simp only [out22, out22', out22b, out22z, out22zb, zeroF, fset, implies_true, Nat.reduceEqDiff, if_true, if_false, setE_lt, setE_hit, Nat.reduceLT, Nat.reduceLeDiff, Nat.reduceAdd, Nat.reduceSub, outOf_z, outOf_s, LV.Ii, LV.Bb, LV.Ll, and_true, and_self, true_and]
theorem EN119 (ρ : Nat → LV) (x : LV) : FN119 [ρ 0, ρ 1, ρ 2, ρ 3, ρ 4, ρ 5, ρ 6, ρ 7, ρ 8, ρ 9, ρ 10, ρ 11, ρ 12, ρ 13, ρ 14, ρ 15, ρ 16, ρ 17, ρ 18, ρ 19, ρ 20, ρ 21, x] = l22 (probeC ρ x) := rfl
def cycleC (f : Nat → LV) (now : LV) (flight : Int) : Nat → LV :=
  if (f 10).I = 2 ∧ flight ≤ holdI f then probeC f now
  else if (f 10).I = 3 ∧ (f 12).I < now.I - (f 19).I then fset (fset f 18 (.i (((f 18).I + 1) % 8))) 19 now
  else f
def F101 (ls : List LV) : List LV := l22 (cycleC (outOf ls) (outOf ls 22) (outOf ls 29).I)
abbrev R101 := RS
/-! (*tideway/bbr.ctl).cycle -/
def s101 : Sig := ⟨101, 101, [.ptr true [I64, I64, I64, I64, I64, I64, I64, I64, I64, I64, I64, (.sl [(.int .i64), (.int .i64)]), I64, I64, I64, I64, I64, I64, I64, I64, I64, I64], .agg [I64, I64, I64, I64, (.base .bool), I64, I64, I64]], []⟩
def t101 : Tr (List (Col × E)) :=
 (.item (.bind 117 [(.v 0), (.v 1), (.v 2), (.v 3), (.v 4), (.v 5), (.v 6), (.v 7), (.v 8), (.v 9), (.v 10), (.v 11), (.v 12), (.v 13), (.v 14), (.v 15), (.v 16), (.v 17), (.v 18), (.v 19), (.v 20), (.v 21)] 30 1)
 (.item (.pre (.op2 .eq (.v 10) (.ki (2))) 117 [(.v 0), (.v 1), (.v 2), (.v 3), (.v 4), (.v 5), (.v 6), (.v 7), (.v 8), (.v 9), (.v 10), (.v 11), (.v 12), (.v 13), (.v 14), (.v 15), (.v 16), (.v 17), (.v 18), (.v 19), (.v 20), (.v 21)])
 (.ite (.op2 .and (.op2 .eq (.v 10) (.ki (2))) (.op2 .le (.v 29) (.v 30)))
 (.item (.bind 119 [(.v 0), (.v 1), (.v 2), (.v 3), (.v 4), (.v 5), (.v 6), (.v 7), (.v 8), (.v 9), (.v 10), (.v 11), (.v 12), (.v 13), (.v 14), (.v 15), (.v 16), (.v 17), (.v 18), (.v 19), (.v 20), (.v 21), (.v 22)] 31 22)
 (.item (.pre (.kb true) 119 [(.v 0), (.v 1), (.v 2), (.v 3), (.v 4), (.v 5), (.v 6), (.v 7), (.v 8), (.v 9), (.v 10), (.v 11), (.v 12), (.v 13), (.v 14), (.v 15), (.v 16), (.v 17), (.v 18), (.v 19), (.v 20), (.v 21), (.v 22)])
 (.leaf [(I64, (.v 31)), (I64, (.v 32)), (I64, (.v 33)), (I64, (.v 34)), (I64, (.v 35)), (I64, (.v 36)), (I64, (.v 37)), (I64, (.v 38)), (I64, (.v 39)), (I64, (.v 40)), (I64, (.v 41)), ((.sl [(.int .i64), (.int .i64)]), (.v 42)), (I64, (.v 43)), (I64, (.v 44)), (I64, (.v 45)), (I64, (.v 46)), (I64, (.v 47)), (I64, (.v 48)), (I64, (.v 49)), (I64, (.v 50)), (I64, (.v 51)), (I64, (.v 52))])))
 (.leaf [(I64, (.v 0)), (I64, (.v 1)), (I64, (.v 2)), (I64, (.v 3)), (I64, (.v 4)), (I64, (.v 5)), (I64, (.v 6)), (I64, (.v 7)), (I64, (.v 8)), (I64, (.v 9)), (I64, (.v 10)), ((.sl [(.int .i64), (.int .i64)]), (.v 11)), (I64, (.v 12)), (I64, (.v 13)), (I64, (.v 14)), (I64, (.v 15)), (I64, (.v 16)), (I64, (.v 17)), (I64, (.iteI (.op2 .and (.op2 .eq (.v 10) (.ki (3))) (.op2 .lt (.v 12) (.op1 (.wrap .i64) (.op2 .sub (.v 22) (.v 19))))) (.op2 .rem (.op1 (.wrap .i64) (.op2 .add (.v 18) (.ki (1)))) (.ki (8))) (.v 18))), (I64, (.iteI (.op2 .and (.op2 .eq (.v 10) (.ki (3))) (.op2 .lt (.v 12) (.op1 (.wrap .i64) (.op2 .sub (.v 22) (.v 19))))) (.v 22) (.v 19))), (I64, (.v 20)), (I64, (.v 21))]))))
theorem c101 : compile Go.Proofs.Try.prog [s117, s119] Go.Proofs.Try.f101 s101.params s101.results = some t101 := by kernel_rfl
def L101 : List (Nat × (List LV → List LV)) := [(117, F117), (119, FN119)]
def M101 : List (Nat × (List LV → Prop)) := [(117, R117)]
theorem h101 : ∀ sg, sg ∈ [s117, s119] → ConOk Go.Proofs.Try.prog (ap L101) (apR M101) sg := by
  intro sg h
  simp only [List.mem_cons, List.not_mem_nil, or_false] at h
  rcases h with rfl | rfl
  · exact k117.to rfl rfl
  · exact kN119.to rfl rfl
set_option maxRecDepth 100000 in
theorem k101 : Kon Go.Proofs.Try.prog s101 F101 R101 := by
  refine con_ok h101 (by kernel_rfl) Go.Proofs.Try.func101 (by kernel_rfl) c101 ?_
  intro ls _ hr
  obtain ⟨hok, hs⟩ := hr
  simp only [t101, Tr.den, L101, M101, ap, apR, if_true, Nat.reduceEqDiff, if_false, List.map_cons, List.map_nil, E.den, O1.ev, ev_add, ev_sub, ev_mul, ev_quo, ev_rem, ev_mx, ev_mn, ev_shl, ev_shr, ev_bit, ev_lt, ev_le, ev_eq, ev_and, ev_or, ev_eqb, ev_cat, ev_rcons, ev_rd, SameL, Col.same]
  simp only [setE_lt, setE_hit, Nat.reduceLT, Nat.reduceLeDiff, Nat.reduceAdd, Nat.reduceSub]
  simp only [E117 (outOf ls), EN119 (outOf ls)]
  simp only [out22', setE_lt, setE_hit, Nat.reduceLT, Nat.reduceLeDiff, Nat.reduceAdd, Nat.reduceSub]
  simp only [LV.Ii, LV.Bb, LV.Ll]
  obtain ⟨_, ⟨h12, h13, h15, h19, _⟩, _, _, h18, _⟩ := b_nums hok
  have hnow := hs.1
  have w1 : IntKind.i64.wrap ((outOf ls 22).I - (outOf ls 19).I) = (outOf ls 22).I - (outOf ls 19).I := wrap_i64 (by unfold TimeI at *; omega) (by unfold TimeI at *; omega)
  have w2 : (IntKind.i64.wrap ((outOf ls 18).I + 1)).tmod 8 = ((outOf ls 18).I + 1) % 8 := by rw [wrap_i64 (by omega) (by omega), Int.tmod_eq_emod_of_nonneg (by omega)]
  simp only [w1, w2, F101]
  refine ⟨fun _ => hok, ?_⟩
  by_cases h1 : (outOf ls 10).I = 2 ∧ (outOf ls 29).I ≤ holdI (outOf ls)
  · rw [if_pos (by simp only [Bool.or_eq_true, Bool.and_eq_true, Bool.not_eq_true', tf_t, tf_f, Bool.or_eq_false_iff, Bool.and_eq_false_iff]; exact h1)]
    simp only [cycleC, if_pos h1]
    refine ⟨fun _ => trivial, ?_⟩
    simp only [out22, out22', out22b, out22z, out22zb, zeroF, fset, implies_true, Nat.reduceEqDiff, if_true, if_false, setE_lt, setE_hit, Nat.reduceLT, Nat.reduceLeDiff, Nat.reduceAdd, Nat.reduceSub, outOf_z, outOf_s, LV.Ii, LV.Bb, LV.Ll, and_true, and_self, true_and]
  rw [if_neg (by simp only [Bool.or_eq_true, Bool.and_eq_true, Bool.not_eq_true', tf_t, tf_f, Bool.or_eq_false_iff, Bool.and_eq_false_iff]; exact h1)]
  simp only [cycleC, if_neg h1]
  by_cases h2 : (outOf ls 10).I = 3 ∧ (outOf ls 12).I < (outOf ls 22).I - (outOf ls 19).I
  · have e : (tf ((outOf ls 10).I = 3) && tf ((outOf ls 12).I < (outOf ls 22).I - (outOf ls 19).I)) = true := by simp only [Bool.or_eq_true, Bool.and_eq_true, Bool.not_eq_true', tf_t, tf_f, Bool.or_eq_false_iff, Bool.and_eq_false_iff]; exact h2
    simp only [e, if_true, if_pos h2]
    simp only [out22, out22', out22b, out22z, out22zb, zeroF, fset, implies_true, Nat.reduceEqDiff, if_true, if_false, setE_lt, setE_hit, Nat.reduceLT, Nat.reduceLeDiff, Nat.reduceAdd, Nat.reduceSub, outOf_z, outOf_s, LV.Ii, LV.Bb, LV.Ll, and_true, and_self, true_and]
  · have e : (tf ((outOf ls 10).I = 3) && tf ((outOf ls 12).I < (outOf ls 22).I - (outOf ls 19).I)) = false := by
      rw [Bool.eq_false_iff]
      intro h
      simp only [Bool.or_eq_true, Bool.and_eq_true, Bool.not_eq_true', tf_t, tf_f, Bool.or_eq_false_iff, Bool.and_eq_false_iff] at h
      exact h2 h
    simp only [e, Bool.false_eq_true, if_false, if_neg h2]
    simp only [out22, out22', out22b, out22z, out22zb, zeroF, fset, implies_true, Nat.reduceEqDiff, if_true, if_false, setE_lt, setE_hit, Nat.reduceLT, Nat.reduceLeDiff, Nat.reduceAdd, Nat.reduceSub, outOf_z, outOf_s, LV.Ii, LV.Bb, LV.Ll, and_true, and_self, true_and]
def askB (f : Nat → LV) (now : LV) : Nat → LV := fset (fset (fset f 2 (.i (max (f 2).I (f 21).I))) 13 now) 20 (.i 0)
def askC (f : Nat → LV) (now : LV) (flight : Int) (late : Bool) : Nat → LV :=
  if late = true ∧ ¬ (f 10).I = 4 then fset (fset (fset f 10 (.i 4)) 20 (.i 0)) 21 (f 2)
  else if ¬ (f 10).I = 4 then f
  else if (f 20).I = 0 ∧ flight ≤ 4 * (f 1).I then fset f 20 (.i (min 1125899906842624 (now.I + 200000)))
  else if 0 < (f 20).I ∧ (f 20).I ≤ now.I then (if (f 17).I = 3 then probeC (askB f now) now else fset (askB f now) 10 (.i 1))
  else f
def F102 (ls : List LV) : List LV := l22 (askC (outOf ls) (outOf ls 22) (outOf ls 29).I (outOf ls 30).B)
abbrev R102 := RS
theorem EN119b (ρ : Nat → LV) (n : LV) : FN119 [ρ 0, ρ 1, .i (max (ρ 2).I (ρ 21).I), ρ 3, ρ 4, ρ 5, ρ 6, ρ 7, ρ 8, ρ 9, ρ 10, ρ 11, ρ 12, n, ρ 14, ρ 15, ρ 16, ρ 17, ρ 18, ρ 19, .i 0, ρ 21, n] = l22 (probeC (askB ρ n) n) := rfl
/-! (*tideway/bbr.ctl).ask -/
def s102 : Sig := ⟨102, 102, [.ptr true [I64, I64, I64, I64, I64, I64, I64, I64, I64, I64, I64, (.sl [(.int .i64), (.int .i64)]), I64, I64, I64, I64, I64, I64, I64, I64, I64, I64], .agg [I64, I64, I64, I64, (.base .bool), I64, I64, I64], .col (.base .bool)], []⟩
def t102 : Tr (List (Col × E)) :=
 (.ite (.op2 .and (.v 30) (.op1 .not (.op2 .eq (.v 10) (.ki (4)))))
 (.leaf [(I64, (.v 0)), (I64, (.v 1)), (I64, (.v 2)), (I64, (.v 3)), (I64, (.v 4)), (I64, (.v 5)), (I64, (.v 6)), (I64, (.v 7)), (I64, (.v 8)), (I64, (.v 9)), (I64, (.ki (4))), ((.sl [(.int .i64), (.int .i64)]), (.v 11)), (I64, (.v 12)), (I64, (.v 13)), (I64, (.v 14)), (I64, (.v 15)), (I64, (.v 16)), (I64, (.v 17)), (I64, (.v 18)), (I64, (.v 19)), (I64, (.ki (0))), (I64, (.v 2))])
 (.ite (.op1 .not (.op2 .eq (.v 10) (.ki (4))))
  (.leaf [(I64, (.v 0)), (I64, (.v 1)), (I64, (.v 2)), (I64, (.v 3)), (I64, (.v 4)), (I64, (.v 5)), (I64, (.v 6)), (I64, (.v 7)), (I64, (.v 8)), (I64, (.v 9)), (I64, (.v 10)), ((.sl [(.int .i64), (.int .i64)]), (.v 11)), (I64, (.v 12)), (I64, (.v 13)), (I64, (.v 14)), (I64, (.v 15)), (I64, (.v 16)), (I64, (.v 17)), (I64, (.v 18)), (I64, (.v 19)), (I64, (.v 20)), (I64, (.v 21))])
  (.ite (.op2 .and (.op2 .eq (.v 20) (.ki (0))) (.op2 .le (.v 29) (.op1 (.wrap .i64) (.op2 .mul (.ki (4)) (.v 1)))))
   (.leaf [(I64, (.v 0)), (I64, (.v 1)), (I64, (.v 2)), (I64, (.v 3)), (I64, (.v 4)), (I64, (.v 5)), (I64, (.v 6)), (I64, (.v 7)), (I64, (.v 8)), (I64, (.v 9)), (I64, (.v 10)), ((.sl [(.int .i64), (.int .i64)]), (.v 11)), (I64, (.v 12)), (I64, (.v 13)), (I64, (.v 14)), (I64, (.v 15)), (I64, (.v 16)), (I64, (.v 17)), (I64, (.v 18)), (I64, (.v 19)), (I64, (.op2 .mn (.ki (1125899906842624)) (.op1 (.wrap .i64) (.op2 .add (.v 22) (.ki (200000)))))), (I64, (.v 21))])
   (.ite (.op2 .and (.op2 .lt (.ki (0)) (.v 20)) (.op2 .le (.v 20) (.v 22)))
    (.ite (.op2 .eq (.v 17) (.ki (3)))
     (.item (.bind 119 [(.v 0), (.v 1), (.op2 .mx (.v 2) (.v 21)), (.v 3), (.v 4), (.v 5), (.v 6), (.v 7), (.v 8), (.v 9), (.v 10), (.v 11), (.v 12), (.v 22), (.v 14), (.v 15), (.v 16), (.v 17), (.v 18), (.v 19), (.ki (0)), (.v 21), (.v 22)] 31 22)
     (.item (.pre (.kb true) 119 [(.v 0), (.v 1), (.op2 .mx (.v 2) (.v 21)), (.v 3), (.v 4), (.v 5), (.v 6), (.v 7), (.v 8), (.v 9), (.v 10), (.v 11), (.v 12), (.v 22), (.v 14), (.v 15), (.v 16), (.v 17), (.v 18), (.v 19), (.ki (0)), (.v 21), (.v 22)])
     (.leaf [(I64, (.v 31)), (I64, (.v 32)), (I64, (.v 33)), (I64, (.v 34)), (I64, (.v 35)), (I64, (.v 36)), (I64, (.v 37)), (I64, (.v 38)), (I64, (.v 39)), (I64, (.v 40)), (I64, (.v 41)), ((.sl [(.int .i64), (.int .i64)]), (.v 42)), (I64, (.v 43)), (I64, (.v 44)), (I64, (.v 45)), (I64, (.v 46)), (I64, (.v 47)), (I64, (.v 48)), (I64, (.v 49)), (I64, (.v 50)), (I64, (.v 51)), (I64, (.v 52))])))
     (.leaf [(I64, (.v 0)), (I64, (.v 1)), (I64, (.op2 .mx (.v 2) (.v 21))), (I64, (.v 3)), (I64, (.v 4)), (I64, (.v 5)), (I64, (.v 6)), (I64, (.v 7)), (I64, (.v 8)), (I64, (.v 9)), (I64, (.ki (1))), ((.sl [(.int .i64), (.int .i64)]), (.v 11)), (I64, (.v 12)), (I64, (.v 22)), (I64, (.v 14)), (I64, (.v 15)), (I64, (.v 16)), (I64, (.v 17)), (I64, (.v 18)), (I64, (.v 19)), (I64, (.ki (0))), (I64, (.v 21))]))
    (.leaf [(I64, (.v 0)), (I64, (.v 1)), (I64, (.v 2)), (I64, (.v 3)), (I64, (.v 4)), (I64, (.v 5)), (I64, (.v 6)), (I64, (.v 7)), (I64, (.v 8)), (I64, (.v 9)), (I64, (.v 10)), ((.sl [(.int .i64), (.int .i64)]), (.v 11)), (I64, (.v 12)), (I64, (.v 13)), (I64, (.v 14)), (I64, (.v 15)), (I64, (.v 16)), (I64, (.v 17)), (I64, (.v 18)), (I64, (.v 19)), (I64, (.v 20)), (I64, (.v 21))])))))
theorem c102 : compile Go.Proofs.Try.prog [s119] Go.Proofs.Try.f102 s102.params s102.results = some t102 := by kernel_rfl
def L102 : List (Nat × (List LV → List LV)) := [(119, FN119)]
def M102 : List (Nat × (List LV → Prop)) := []
theorem h102 : ∀ sg, sg ∈ [s119] → ConOk Go.Proofs.Try.prog (ap L102) (apR M102) sg := by
  intro sg h
  simp only [List.mem_cons, List.not_mem_nil, or_false] at h
  rcases h with rfl
  · exact kN119.to rfl rfl
set_option maxRecDepth 100000 in
theorem k102 : Kon Go.Proofs.Try.prog s102 F102 R102 := by
  refine con_ok h102 (by kernel_rfl) Go.Proofs.Try.func102 (by kernel_rfl) c102 ?_
  intro ls _ hr
  obtain ⟨hok, hs⟩ := hr
  simp only [t102, Tr.den, L102, M102, ap, apR, if_true, Nat.reduceEqDiff, if_false, List.map_cons, List.map_nil, E.den, O1.ev, ev_add, ev_sub, ev_mul, ev_quo, ev_rem, ev_mx, ev_mn, ev_shl, ev_shr, ev_bit, ev_lt, ev_le, ev_eq, ev_and, ev_or, ev_eqb, ev_cat, ev_rcons, ev_rd, SameL, Col.same]
  simp only [setE_lt, setE_hit, Nat.reduceLT, Nat.reduceLeDiff, Nat.reduceAdd, Nat.reduceSub]
  simp only [EN119b (outOf ls)]
  simp only [out22', setE_lt, setE_hit, Nat.reduceLT, Nat.reduceLeDiff, Nat.reduceAdd, Nat.reduceSub]
  simp only [LV.Ii, LV.Bb, LV.Ll]
  have hb := b_nums hok
  have hnow := hs.1
  have w1 : IntKind.i64.wrap (4 * (outOf ls 1).I) = 4 * (outOf ls 1).I := wrap_i64 (by omega) (by omega)
  have w2 : IntKind.i64.wrap ((outOf ls 22).I + 200000) = (outOf ls 22).I + 200000 := wrap_i64 (by unfold TimeI at hnow; omega) (by unfold TimeI at hnow; omega)
  simp only [w1, w2, F102]
  by_cases h1 : (outOf ls 30).B = true ∧ ¬ (outOf ls 10).I = 4
  · rw [if_pos (by simp only [Bool.or_eq_true, Bool.and_eq_true, Bool.not_eq_true', tf_t, tf_f, Bool.or_eq_false_iff, Bool.and_eq_false_iff]; exact h1)]
    simp only [askC, if_pos h1]
    simp only [out22, out22', out22b, out22z, out22zb, zeroF, fset, implies_true, Nat.reduceEqDiff, if_true, if_false, setE_lt, setE_hit, Nat.reduceLT, Nat.reduceLeDiff, Nat.reduceAdd, Nat.reduceSub, outOf_z, outOf_s, LV.Ii, LV.Bb, LV.Ll, and_true, and_self, true_and]
  rw [if_neg (by simp only [Bool.or_eq_true, Bool.and_eq_true, Bool.not_eq_true', tf_t, tf_f, Bool.or_eq_false_iff, Bool.and_eq_false_iff]; exact h1)]
  simp only [askC, if_neg h1]
  by_cases h2 : ¬ (outOf ls 10).I = 4
  · rw [if_pos (by simp only [Bool.or_eq_true, Bool.and_eq_true, Bool.not_eq_true', tf_t, tf_f, Bool.or_eq_false_iff, Bool.and_eq_false_iff]; exact h2)]
    simp only [if_pos h2]
    simp only [out22, out22', out22b, out22z, out22zb, zeroF, fset, implies_true, Nat.reduceEqDiff, if_true, if_false, setE_lt, setE_hit, Nat.reduceLT, Nat.reduceLeDiff, Nat.reduceAdd, Nat.reduceSub, outOf_z, outOf_s, LV.Ii, LV.Bb, LV.Ll, and_true, and_self, true_and]
  rw [if_neg (by simp only [Bool.or_eq_true, Bool.and_eq_true, Bool.not_eq_true', tf_t, tf_f, Bool.or_eq_false_iff, Bool.and_eq_false_iff]; exact h2)]
  simp only [if_neg h2]
  by_cases h3 : (outOf ls 20).I = 0 ∧ (outOf ls 29).I ≤ 4 * (outOf ls 1).I
  · rw [if_pos (by simp only [Bool.or_eq_true, Bool.and_eq_true, Bool.not_eq_true', tf_t, tf_f, Bool.or_eq_false_iff, Bool.and_eq_false_iff]; exact h3)]
    simp only [if_pos h3]
    simp only [out22, out22', out22b, out22z, out22zb, zeroF, fset, implies_true, Nat.reduceEqDiff, if_true, if_false, setE_lt, setE_hit, Nat.reduceLT, Nat.reduceLeDiff, Nat.reduceAdd, Nat.reduceSub, outOf_z, outOf_s, LV.Ii, LV.Bb, LV.Ll, and_true, and_self, true_and]
  rw [if_neg (by simp only [Bool.or_eq_true, Bool.and_eq_true, Bool.not_eq_true', tf_t, tf_f, Bool.or_eq_false_iff, Bool.and_eq_false_iff]; exact h3)]
  simp only [if_neg h3]
  by_cases h4 : 0 < (outOf ls 20).I ∧ (outOf ls 20).I ≤ (outOf ls 22).I
  case neg =>
    rw [if_neg (by simp only [Bool.or_eq_true, Bool.and_eq_true, Bool.not_eq_true', tf_t, tf_f, Bool.or_eq_false_iff, Bool.and_eq_false_iff]; exact h4)]
    simp only [if_neg h4]
    simp only [out22, out22', out22b, out22z, out22zb, zeroF, fset, implies_true, Nat.reduceEqDiff, if_true, if_false, setE_lt, setE_hit, Nat.reduceLT, Nat.reduceLeDiff, Nat.reduceAdd, Nat.reduceSub, outOf_z, outOf_s, LV.Ii, LV.Bb, LV.Ll, and_true, and_self, true_and]
  rw [if_pos (by simp only [Bool.or_eq_true, Bool.and_eq_true, Bool.not_eq_true', tf_t, tf_f, Bool.or_eq_false_iff, Bool.and_eq_false_iff]; exact h4)]
  simp only [if_pos h4]
  by_cases h5 : (outOf ls 17).I = 3
  · rw [if_pos ((tf_t _).mpr h5)]
    simp only [if_pos h5]
    refine ⟨fun _ => trivial, ?_⟩
    simp only [out22, out22', out22b, out22z, out22zb, zeroF, fset, implies_true, Nat.reduceEqDiff, if_true, if_false, setE_lt, setE_hit, Nat.reduceLT, Nat.reduceLeDiff, Nat.reduceAdd, Nat.reduceSub, outOf_z, outOf_s, LV.Ii, LV.Bb, LV.Ll, and_true, and_self, true_and]
  · rw [if_neg (fun h => h5 ((tf_t _).mp h))]
    simp only [if_neg h5, askB]
    simp only [out22, out22', out22b, out22z, out22zb, zeroF, fset, implies_true, Nat.reduceEqDiff, if_true, if_false, setE_lt, setE_hit, Nat.reduceLT, Nat.reduceLeDiff, Nat.reduceAdd, Nat.reduceSub, outOf_z, outOf_s, LV.Ii, LV.Bb, LV.Ll, and_true, and_self, true_and]
def windowI (f : Nat → LV) (acked : Int) : Int :=
  if (f 10).I = 4 then min (f 2).I (4 * (f 1).I)
  else if (f 17).I = 3 then min (max (2 * holdI f) (4 * (f 1).I)) ((f 2).I + acked)
  else if (f 2).I < max (2 * holdI f) (4 * (f 1).I) ∨ bwI (f 11).L = 0 then (f 2).I + acked
  else (f 2).I
def windowC (f : Nat → LV) (acked : Int) : Nat → LV := fset f 2 (.i (clampI (windowI f acked) (f 1).I 1073741824))
def F103 (ls : List LV) : List LV := l22 (windowC (outOf ls) (outOf ls 23).I)
abbrev R103 := RS
/-! (*tideway/bbr.ctl).window -/
def s103 : Sig := ⟨103, 103, [.ptr true [I64, I64, I64, I64, I64, I64, I64, I64, I64, I64, I64, (.sl [(.int .i64), (.int .i64)]), I64, I64, I64, I64, I64, I64, I64, I64, I64, I64], .agg [I64, I64, I64, I64, (.base .bool), I64, I64, I64]], []⟩
def t103 : Tr (List (Col × E)) :=
 (.item (.bind 117 [(.v 0), (.v 1), (.v 2), (.v 3), (.v 4), (.v 5), (.v 6), (.v 7), (.v 8), (.v 9), (.v 10), (.v 11), (.v 12), (.v 13), (.v 14), (.v 15), (.v 16), (.v 17), (.v 18), (.v 19), (.v 20), (.v 21)] 30 1)
 (.item (.pre (.kb true) 117 [(.v 0), (.v 1), (.v 2), (.v 3), (.v 4), (.v 5), (.v 6), (.v 7), (.v 8), (.v 9), (.v 10), (.v 11), (.v 12), (.v 13), (.v 14), (.v 15), (.v 16), (.v 17), (.v 18), (.v 19), (.v 20), (.v 21)])
 (.ite (.op2 .eq (.v 10) (.ki (4)))
 (.item (.bind 75 [(.op2 .mn (.v 2) (.op1 (.wrap .i64) (.op2 .mul (.ki (4)) (.v 1)))), (.v 1), (.ki (1073741824))] 32 1)
 (.item (.pre (.kb true) 75 [(.op2 .mn (.v 2) (.op1 (.wrap .i64) (.op2 .mul (.ki (4)) (.v 1)))), (.v 1), (.ki (1073741824))])
 (.leaf [(I64, (.v 0)), (I64, (.v 1)), (I64, (.v 32)), (I64, (.v 3)), (I64, (.v 4)), (I64, (.v 5)), (I64, (.v 6)), (I64, (.v 7)), (I64, (.v 8)), (I64, (.v 9)), (I64, (.v 10)), ((.sl [(.int .i64), (.int .i64)]), (.v 11)), (I64, (.v 12)), (I64, (.v 13)), (I64, (.v 14)), (I64, (.v 15)), (I64, (.v 16)), (I64, (.v 17)), (I64, (.v 18)), (I64, (.v 19)), (I64, (.v 20)), (I64, (.v 21))])))
 (.ite (.op2 .eq (.v 17) (.ki (3)))
  (.item (.bind 75 [(.op2 .mn (.op2 .mx (.op1 (.wrap .i64) (.op2 .mul (.ki (2)) (.v 30))) (.op1 (.wrap .i64) (.op2 .mul (.ki (4)) (.v 1)))) (.op1 (.wrap .i64) (.op2 .add (.v 2) (.v 23)))), (.v 1), (.ki (1073741824))] 33 1)
  (.item (.pre (.kb true) 75 [(.op2 .mn (.op2 .mx (.op1 (.wrap .i64) (.op2 .mul (.ki (2)) (.v 30))) (.op1 (.wrap .i64) (.op2 .mul (.ki (4)) (.v 1)))) (.op1 (.wrap .i64) (.op2 .add (.v 2) (.v 23)))), (.v 1), (.ki (1073741824))])
  (.leaf [(I64, (.v 0)), (I64, (.v 1)), (I64, (.v 33)), (I64, (.v 3)), (I64, (.v 4)), (I64, (.v 5)), (I64, (.v 6)), (I64, (.v 7)), (I64, (.v 8)), (I64, (.v 9)), (I64, (.v 10)), ((.sl [(.int .i64), (.int .i64)]), (.v 11)), (I64, (.v 12)), (I64, (.v 13)), (I64, (.v 14)), (I64, (.v 15)), (I64, (.v 16)), (I64, (.v 17)), (I64, (.v 18)), (I64, (.v 19)), (I64, (.v 20)), (I64, (.v 21))])))
  (.item (.bind 104 [(.v 0), (.v 1), (.v 2), (.v 3), (.v 4), (.v 5), (.v 6), (.v 7), (.v 8), (.v 9), (.v 10), (.v 11), (.v 12), (.v 13), (.v 14), (.v 15), (.v 16), (.v 17), (.v 18), (.v 19), (.v 20), (.v 21)] 31 1)
  (.item (.pre (.op1 .not (.op2 .lt (.v 2) (.op2 .mx (.op1 (.wrap .i64) (.op2 .mul (.ki (2)) (.v 30))) (.op1 (.wrap .i64) (.op2 .mul (.ki (4)) (.v 1)))))) 104 [(.v 0), (.v 1), (.v 2), (.v 3), (.v 4), (.v 5), (.v 6), (.v 7), (.v 8), (.v 9), (.v 10), (.v 11), (.v 12), (.v 13), (.v 14), (.v 15), (.v 16), (.v 17), (.v 18), (.v 19), (.v 20), (.v 21)])
  (.item (.bind 75 [(.iteI (.op2 .or (.op2 .lt (.v 2) (.op2 .mx (.op1 (.wrap .i64) (.op2 .mul (.ki (2)) (.v 30))) (.op1 (.wrap .i64) (.op2 .mul (.ki (4)) (.v 1))))) (.op2 .eq (.v 31) (.ki (0)))) (.op1 (.wrap .i64) (.op2 .add (.v 2) (.v 23))) (.v 2)), (.v 1), (.ki (1073741824))] 34 1)
  (.item (.pre (.kb true) 75 [(.iteI (.op2 .or (.op2 .lt (.v 2) (.op2 .mx (.op1 (.wrap .i64) (.op2 .mul (.ki (2)) (.v 30))) (.op1 (.wrap .i64) (.op2 .mul (.ki (4)) (.v 1))))) (.op2 .eq (.v 31) (.ki (0)))) (.op1 (.wrap .i64) (.op2 .add (.v 2) (.v 23))) (.v 2)), (.v 1), (.ki (1073741824))])
  (.leaf [(I64, (.v 0)), (I64, (.v 1)), (I64, (.v 34)), (I64, (.v 3)), (I64, (.v 4)), (I64, (.v 5)), (I64, (.v 6)), (I64, (.v 7)), (I64, (.v 8)), (I64, (.v 9)), (I64, (.v 10)), ((.sl [(.int .i64), (.int .i64)]), (.v 11)), (I64, (.v 12)), (I64, (.v 13)), (I64, (.v 14)), (I64, (.v 15)), (I64, (.v 16)), (I64, (.v 17)), (I64, (.v 18)), (I64, (.v 19)), (I64, (.v 20)), (I64, (.v 21))])))))))))
theorem c103 : compile Go.Proofs.Try.prog [s75, s104, s117] Go.Proofs.Try.f103 s103.params s103.results = some t103 := by kernel_rfl
def L103 : List (Nat × (List LV → List LV)) := [(75, F75), (104, F104), (117, F117)]
def M103 : List (Nat × (List LV → Prop)) := [(117, R117)]
theorem h103 : ∀ sg, sg ∈ [s75, s104, s117] → ConOk Go.Proofs.Try.prog (ap L103) (apR M103) sg := by
  intro sg h
  simp only [List.mem_cons, List.not_mem_nil, or_false] at h
  rcases h with rfl | rfl | rfl
  · exact k75.to rfl rfl
  · exact k104.to rfl rfl
  · exact k117.to rfl rfl
set_option maxRecDepth 100000 in
theorem k103 : Kon Go.Proofs.Try.prog s103 F103 R103 := by
  refine con_ok h103 (by kernel_rfl) Go.Proofs.Try.func103 (by kernel_rfl) c103 ?_
  intro ls _ hr
  obtain ⟨hok, hs⟩ := hr
  simp only [t103, Tr.den, L103, M103, ap, apR, if_true, Nat.reduceEqDiff, if_false, List.map_cons, List.map_nil, E.den, O1.ev, ev_add, ev_sub, ev_mul, ev_quo, ev_rem, ev_mx, ev_mn, ev_shl, ev_shr, ev_bit, ev_lt, ev_le, ev_eq, ev_and, ev_or, ev_eqb, ev_cat, ev_rcons, ev_rd, SameL, Col.same]
  simp only [setE_lt, setE_hit, Nat.reduceLT, Nat.reduceLeDiff, Nat.reduceAdd, Nat.reduceSub]
  simp only [E117 (outOf ls), E104 (outOf ls), E75]
  simp only [LV.Ii, LV.Bb, LV.Ll]
  have hb := b_nums hok
  have hp := prod_range hok
  have hack : SizeI (outOf ls 23).I := hs.2.1
  have w1 : IntKind.i64.wrap (4 * (outOf ls 1).I) = 4 * (outOf ls 1).I := wrap_i64 (by omega) (by omega)
  have w2 : IntKind.i64.wrap (2 * holdI (outOf ls)) = 2 * holdI (outOf ls) := wrap_i64 (by omega) (by omega)
  have w3 : IntKind.i64.wrap ((outOf ls 2).I + (outOf ls 23).I) = (outOf ls 2).I + (outOf ls 23).I := wrap_i64 (by unfold SizeI at hack; omega) (by unfold SizeI at hack; omega)
  simp only [w1, w2, w3, F103, windowC, windowI]
  refine ⟨fun _ => hok, ?_⟩
  by_cases h1 : (outOf ls 10).I = 4
  · rw [if_pos ((tf_t _).mpr h1)]
    simp only [if_pos h1]
    refine ⟨fun _ => trivial, ?_⟩
    simp only [out22, out22', out22b, out22z, out22zb, zeroF, fset, implies_true, Nat.reduceEqDiff, if_true, if_false, setE_lt, setE_hit, Nat.reduceLT, Nat.reduceLeDiff, Nat.reduceAdd, Nat.reduceSub, outOf_z, outOf_s, LV.Ii, LV.Bb, LV.Ll, and_true, and_self, true_and]
  rw [if_neg (fun h => h1 ((tf_t _).mp h))]
  simp only [if_neg h1]
  by_cases h2 : (outOf ls 17).I = 3
  · rw [if_pos ((tf_t _).mpr h2)]
    simp only [if_pos h2]
    refine ⟨fun _ => trivial, ?_⟩
    simp only [out22, out22', out22b, out22z, out22zb, zeroF, fset, implies_true, Nat.reduceEqDiff, if_true, if_false, setE_lt, setE_hit, Nat.reduceLT, Nat.reduceLeDiff, Nat.reduceAdd, Nat.reduceSub, outOf_z, outOf_s, LV.Ii, LV.Bb, LV.Ll, and_true, and_self, true_and]
  rw [if_neg (fun h => h2 ((tf_t _).mp h))]
  simp only [if_neg h2]
  refine ⟨fun _ => trivial, fun _ => trivial, ?_⟩
  by_cases h3 : (outOf ls 2).I < max (2 * holdI (outOf ls)) (4 * (outOf ls 1).I) ∨ bwI (outOf ls 11).L = 0
  · have e : (tf ((outOf ls 2).I < max (2 * holdI (outOf ls)) (4 * (outOf ls 1).I)) || tf (bwI (outOf ls 11).L = 0)) = true := by simp only [Bool.or_eq_true, Bool.and_eq_true, Bool.not_eq_true', tf_t, tf_f, Bool.or_eq_false_iff, Bool.and_eq_false_iff]; exact h3
    simp only [e, if_true, if_pos h3]
    simp only [out22, out22', out22b, out22z, out22zb, zeroF, fset, implies_true, Nat.reduceEqDiff, if_true, if_false, setE_lt, setE_hit, Nat.reduceLT, Nat.reduceLeDiff, Nat.reduceAdd, Nat.reduceSub, outOf_z, outOf_s, LV.Ii, LV.Bb, LV.Ll, and_true, and_self, true_and]
  · have e : (tf ((outOf ls 2).I < max (2 * holdI (outOf ls)) (4 * (outOf ls 1).I)) || tf (bwI (outOf ls 11).L = 0)) = false := by
      rw [Bool.eq_false_iff]
      intro h
      simp only [Bool.or_eq_true, Bool.and_eq_true, Bool.not_eq_true', tf_t, tf_f, Bool.or_eq_false_iff, Bool.and_eq_false_iff] at h
      exact h3 h
    simp only [e, Bool.false_eq_true, if_false, if_neg h3]
    simp only [out22, out22', out22b, out22z, out22zb, zeroF, fset, implies_true, Nat.reduceEqDiff, if_true, if_false, setE_lt, setE_hit, Nat.reduceLT, Nat.reduceLeDiff, Nat.reduceAdd, Nat.reduceSub, outOf_z, outOf_s, LV.Ii, LV.Bb, LV.Ll, and_true, and_self, true_and]
end Go.Proofs.Ythhnnfmfeofknaa.Sy
