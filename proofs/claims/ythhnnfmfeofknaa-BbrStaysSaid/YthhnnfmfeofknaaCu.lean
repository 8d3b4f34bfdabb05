/-
  bbr: the steps behind an acknowledgement.
-/
import Derived.Test.YthhnnfmfeofknaaCt
namespace Go.Proofs.Ythhnnfmfeofknaa.Sy
open Go Go.RowKit
set_option linter.unusedSimpArgs false
set_option linter.unusedVariables false

/-- A sample that may be: the numbers from o on. -/
abbrev Samp (f : Nat → LV) (o : Nat) : Prop := TimeI (f o).I ∧ SizeI (f (o + 1)).I ∧ TimeI (f (o + 2)).I ∧ 0 ≤ (f (o + 3)).I ∧ TimeI (f (o + 5)).I ∧ TimeI (f (o + 6)).I ∧ SizeI (f (o + 7)).I
abbrev Few (f : Nat → LV) : Prop := (f 11).L.length ≤ 8796093022207
theorem b_nums {f : Nat → LV} (h : BbrOk f) : (1 ≤ (f 1).I ∧ (f 1).I ≤ 65000 ∧ (f 1).I ≤ (f 2).I ∧ (f 2).I ≤ 1073741824) ∧ (TimeI (f 12).I ∧ TimeI (f 13).I ∧ TimeI (f 15).I ∧ TimeI (f 19).I ∧ TimeI (f 20).I ∧ TimeI (f 14).I) ∧ (0 ≤ (f 16).I ∧ (f 16).I ≤ 1099511627776) ∧ (0 ≤ (f 17).I ∧ (f 17).I ≤ 3) ∧ (0 ≤ (f 18).I ∧ (f 18).I ≤ 7) ∧ SizeI (f 21).I ∧ 1 ≤ (f 10).I ∧ (f 10).I ≤ 4 :=
  ⟨⟨h.1.2.1, h.1.2.2.1, h.1.2.2.2.1, h.1.2.2.2.2.1⟩, h.2.2.1⟩
theorem bw_range {f : Nat → LV} (h : BbrOk f) : 0 ≤ bwI (f 11).L ∧ bwI (f 11).L ≤ 1099511627776 := by
  obtain ⟨_, _, _, hF, hE⟩ := h
  unfold bwI
  generalize (f 11).L = rows at *
  cases rows with
  | nil => simp [vR]
  | cons r rs =>
    have h1 := (hF 0 (by simp)).1.2
    have h2 := (hE 0 (by simp)).1
    exact ⟨h1.1, h2⟩
def roundC (f : Nat → LV) (given : LV) : Nat → LV := fset (fset f 15 given) 14 (.i (min 1125899906842624 ((f 14).I + 1)))
def FN97 (ls : List LV) : List LV := if (outOf ls 28).I < (outOf ls 15).I then .b false :: l22 (outOf ls) else .b true :: l22 (roundC (outOf ls) (outOf ls 27))
def RN97 (ls : List LV) : Prop := BbrOk (outOf ls)
theorem outC (x : LV) (g : Nat → LV) {i : Nat} (h : i < 22) : outOf (x :: l22 g) (i + 1) = g i := by rw [outOf_s, out22' g h]
theorem kN97 : Kon Go.Proofs.Try.prog s97 FN97 RN97 := by
  refine con_ok h97 (by kernel_rfl) Go.Proofs.Try.func97 (by kernel_rfl) c97 ?_
  intro ls _ hr
  simp only [RN97] at hr
  simp only [t97, Tr.den, L97, M97, ap, apR, if_true, Nat.reduceEqDiff, if_false, List.map_cons, List.map_nil, E.den, O1.ev, ev_add, ev_sub, ev_mul, ev_quo, ev_rem, ev_mx, ev_mn, ev_shl, ev_shr, ev_bit, ev_lt, ev_le, ev_eq, ev_and, ev_or, ev_eqb, ev_cat, ev_rcons, ev_rd, SameL, Col.same]
  simp only [setE_lt, setE_hit, Nat.reduceLT, Nat.reduceLeDiff, Nat.reduceAdd, Nat.reduceSub]
  simp only [LV.Ii, LV.Bb, LV.Ll]
  obtain ⟨_, ⟨_, _, _, _, _, h14⟩, _⟩ := b_nums hr
  have w1 : IntKind.i64.wrap ((outOf ls 14).I + 1) = (outOf ls 14).I + 1 := wrap_i64 (by unfold TimeI at h14; omega) (by unfold TimeI at h14; omega)
  simp only [w1, FN97]
  by_cases h : (outOf ls 28).I < (outOf ls 15).I
  · rw [if_pos ((tf_t _).mpr h), if_pos h]
    simp only [outOf_z, outOf_s]
    simp only [out22, out22', out22b, out22z, out22zb, zeroF, fset, implies_true, Nat.reduceEqDiff, if_true, if_false, setE_lt, setE_hit, Nat.reduceLT, Nat.reduceLeDiff, Nat.reduceAdd, Nat.reduceSub, outOf_z, outOf_s, LV.Ii, LV.Bb, LV.Ll, and_true, and_self, true_and]
  · rw [if_neg (fun h' => h ((tf_t _).mp h')), if_neg h]
    simp only [outOf_z, outOf_s, roundC]
    simp only [out22, out22', out22b, out22z, out22zb, zeroF, fset, implies_true, Nat.reduceEqDiff, if_true, if_false, setE_lt, setE_hit, Nat.reduceLT, Nat.reduceLeDiff, Nat.reduceAdd, Nat.reduceSub, outOf_z, outOf_s, LV.Ii, LV.Bb, LV.Ll, and_true, and_self, true_and]
def speedV (f : Nat → LV) (rate : Int) : Int := min 1099511627776 rate
abbrev Tops (f : Nat → LV) : Prop := 0 < (f 11).L.length ∧ atR (f 11).L ((f 11).L.length - 1) = (f 14).I
abbrev NoSpeed (f : Nat → LV) (rate : Int) (idle : Bool) : Prop := min 1099511627776 rate = 0 ∨ (idle = true ∧ min 1099511627776 rate < bwI (f 11).L)
def speedArgs (f : Nat → LV) (rate : Int) : List LV :=
  [.l (if Tops f then (f 11).L.take ((f 11).L.length - 1) else (f 11).L), f 14, .i (if Tops f then max (min 1099511627776 rate) (vR (f 11).L ((f 11).L.length - 1)) else min 1099511627776 rate), .i 10, .b true]
def speedC (f : Nat → LV) (rate : Int) (idle : Bool) : Nat → LV := if NoSpeed f rate idle then f else fset f 11 (outOf (F118 (speedArgs f rate)) 0)
def F98 (ls : List LV) : List LV := l22 (speedC (outOf ls) (outOf ls 25).I (outOf ls 26).B)
def R98 (ls : List LV) : Prop := BbrOk (outOf ls) ∧ 0 ≤ (outOf ls 25).I ∧ Few (outOf ls)
theorem E104 (ρ : Nat → LV) : (outOf (F104 [ρ 0, ρ 1, ρ 2, ρ 3, ρ 4, ρ 5, ρ 6, ρ 7, ρ 8, ρ 9, ρ 10, ρ 11, ρ 12, ρ 13, ρ 14, ρ 15, ρ 16, ρ 17, ρ 18, ρ 19, ρ 20, ρ 21]) 0).I = bwI (ρ 11).L := by
  simp only [F104, outOf_z, LV.Ii]
  rfl

/-! (*tideway/bbr.ctl).speed -/
def s98 : Sig := ⟨98, 98, [.ptr true [I64, I64, I64, I64, I64, I64, I64, I64, I64, I64, I64, (.sl [(.int .i64), (.int .i64)]), I64, I64, I64, I64, I64, I64, I64, I64, I64, I64], .agg [I64, I64, I64, I64, (.base .bool), I64, I64, I64]], []⟩
def t98 : Tr (List (Col × E)) :=
 (.item (.bind 104 [(.v 0), (.v 1), (.v 2), (.v 3), (.v 4), (.v 5), (.v 6), (.v 7), (.v 8), (.v 9), (.v 10), (.v 11), (.v 12), (.v 13), (.v 14), (.v 15), (.v 16), (.v 17), (.v 18), (.v 19), (.v 20), (.v 21)] 30 1)
 (.item (.pre (.op2 .and (.op1 .not (.op2 .eq (.op2 .mn (.ki (1099511627776)) (.v 25)) (.ki (0)))) (.v 26)) 104 [(.v 0), (.v 1), (.v 2), (.v 3), (.v 4), (.v 5), (.v 6), (.v 7), (.v 8), (.v 9), (.v 10), (.v 11), (.v 12), (.v 13), (.v 14), (.v 15), (.v 16), (.v 17), (.v 18), (.v 19), (.v 20), (.v 21)])
 (.ite (.op2 .or (.op2 .eq (.op2 .mn (.ki (1099511627776)) (.v 25)) (.ki (0))) (.op2 .and (.v 26) (.op2 .lt (.op2 .mn (.ki (1099511627776)) (.v 25)) (.v 30))))
 (.leaf [(I64, (.v 0)), (I64, (.v 1)), (I64, (.v 2)), (I64, (.v 3)), (I64, (.v 4)), (I64, (.v 5)), (I64, (.v 6)), (I64, (.v 7)), (I64, (.v 8)), (I64, (.v 9)), (I64, (.v 10)), ((.sl [(.int .i64), (.int .i64)]), (.v 11)), (I64, (.v 12)), (I64, (.v 13)), (I64, (.v 14)), (I64, (.v 15)), (I64, (.v 16)), (I64, (.v 17)), (I64, (.v 18)), (I64, (.v 19)), (I64, (.v 20)), (I64, (.v 21))])
 (.item (.need (.op2 .or (.op1 .not (.op2 .lt (.ki (0)) (.len (.v 11)))) (.op2 .le (.ki (0)) (.op1 (.wrap .i64) (.op2 .sub (.len (.v 11)) (.ki (1)))))))
 (.item (.need (.op2 .or (.op1 .not (.op2 .lt (.ki (0)) (.len (.v 11)))) (.op2 .lt (.op1 (.wrap .i64) (.op2 .sub (.len (.v 11)) (.ki (1)))) (.len (.v 11)))))
 (.item (.need (.op2 .or (.op1 .not (.op2 .and (.op2 .lt (.ki (0)) (.len (.v 11))) (.op2 .eq (.op2 (.rd 0) (.v 11) (.op1 (.wrap .i64) (.op2 .sub (.len (.v 11)) (.ki (1))))) (.v 14)))) (.op2 .le (.ki (0)) (.op1 (.wrap .i64) (.op2 .sub (.len (.v 11)) (.ki (1)))))))
 (.item (.need (.op2 .or (.op1 .not (.op2 .and (.op2 .lt (.ki (0)) (.len (.v 11))) (.op2 .eq (.op2 (.rd 0) (.v 11) (.op1 (.wrap .i64) (.op2 .sub (.len (.v 11)) (.ki (1))))) (.v 14)))) (.op2 .lt (.op1 (.wrap .i64) (.op2 .sub (.len (.v 11)) (.ki (1)))) (.len (.v 11)))))
 (.item (.need (.op2 .or (.op1 .not (.op2 .and (.op2 .lt (.ki (0)) (.len (.v 11))) (.op2 .eq (.op2 (.rd 0) (.v 11) (.op1 (.wrap .i64) (.op2 .sub (.len (.v 11)) (.ki (1))))) (.v 14)))) (.op2 .le (.ki (0)) (.ki (0)))))
 (.item (.need (.op2 .or (.op1 .not (.op2 .and (.op2 .lt (.ki (0)) (.len (.v 11))) (.op2 .eq (.op2 (.rd 0) (.v 11) (.op1 (.wrap .i64) (.op2 .sub (.len (.v 11)) (.ki (1))))) (.v 14)))) (.op2 .le (.ki (0)) (.op1 (.wrap .i64) (.op2 .sub (.len (.v 11)) (.ki (1)))))))
 (.item (.need (.op2 .or (.op1 .not (.op2 .and (.op2 .lt (.ki (0)) (.len (.v 11))) (.op2 .eq (.op2 (.rd 0) (.v 11) (.op1 (.wrap .i64) (.op2 .sub (.len (.v 11)) (.ki (1))))) (.v 14)))) (.op2 .le (.op1 (.wrap .i64) (.op2 .sub (.len (.v 11)) (.ki (1)))) (.op1 (.wrap .i64) (.op2 .sub (.len (.v 11)) (.ki (1)))))))
 (.item (.need (.op2 .or (.op1 .not (.op2 .and (.op2 .lt (.ki (0)) (.len (.v 11))) (.op2 .eq (.op2 (.rd 0) (.v 11) (.op1 (.wrap .i64) (.op2 .sub (.len (.v 11)) (.ki (1))))) (.v 14)))) (.op2 .le (.op1 (.wrap .i64) (.op2 .sub (.len (.v 11)) (.ki (1)))) (.len (.v 11)))))
 (.item (.bind 118 [(.iteL (.op2 .and (.op2 .lt (.ki (0)) (.len (.v 11))) (.op2 .eq (.op2 (.rd 0) (.v 11) (.op1 (.wrap .i64) (.op2 .sub (.len (.v 11)) (.ki (1))))) (.v 14))) (.sub (.v 11) (.ki (0)) (.op1 (.wrap .i64) (.op2 .sub (.len (.v 11)) (.ki (1))))) (.v 11)), (.v 14), (.iteI (.op2 .and (.op2 .lt (.ki (0)) (.len (.v 11))) (.op2 .eq (.op2 (.rd 0) (.v 11) (.op1 (.wrap .i64) (.op2 .sub (.len (.v 11)) (.ki (1))))) (.v 14))) (.op2 .mx (.op2 .mn (.ki (1099511627776)) (.v 25)) (.op2 (.rd 1) (.v 11) (.op1 (.wrap .i64) (.op2 .sub (.len (.v 11)) (.ki (1)))))) (.op2 .mn (.ki (1099511627776)) (.v 25))), (.ki (10)), (.kb true)] 31 2)
 (.item (.pre (.kb true) 118 [(.iteL (.op2 .and (.op2 .lt (.ki (0)) (.len (.v 11))) (.op2 .eq (.op2 (.rd 0) (.v 11) (.op1 (.wrap .i64) (.op2 .sub (.len (.v 11)) (.ki (1))))) (.v 14))) (.sub (.v 11) (.ki (0)) (.op1 (.wrap .i64) (.op2 .sub (.len (.v 11)) (.ki (1))))) (.v 11)), (.v 14), (.iteI (.op2 .and (.op2 .lt (.ki (0)) (.len (.v 11))) (.op2 .eq (.op2 (.rd 0) (.v 11) (.op1 (.wrap .i64) (.op2 .sub (.len (.v 11)) (.ki (1))))) (.v 14))) (.op2 .mx (.op2 .mn (.ki (1099511627776)) (.v 25)) (.op2 (.rd 1) (.v 11) (.op1 (.wrap .i64) (.op2 .sub (.len (.v 11)) (.ki (1)))))) (.op2 .mn (.ki (1099511627776)) (.v 25))), (.ki (10)), (.kb true)])
 (.leaf [(I64, (.v 0)), (I64, (.v 1)), (I64, (.v 2)), (I64, (.v 3)), (I64, (.v 4)), (I64, (.v 5)), (I64, (.v 6)), (I64, (.v 7)), (I64, (.v 8)), (I64, (.v 9)), (I64, (.v 10)), ((.sl [(.int .i64), (.int .i64)]), (.v 31)), (I64, (.v 12)), (I64, (.v 13)), (I64, (.v 14)), (I64, (.v 15)), (I64, (.v 16)), (I64, (.v 17)), (I64, (.v 18)), (I64, (.v 19)), (I64, (.v 20)), (I64, (.v 21))]))))))))))))))
theorem c98 : compile Go.Proofs.Try.prog [s104, s118] Go.Proofs.Try.f98 s98.params s98.results = some t98 := by kernel_rfl
def L98 : List (Nat × (List LV → List LV)) := [(104, F104), (118, F118)]
def M98 : List (Nat × (List LV → Prop)) := [(118, R118)]
theorem h98 : ∀ sg, sg ∈ [s104, s118] → ConOk Go.Proofs.Try.prog (ap L98) (apR M98) sg := by
  intro sg h
  simp only [List.mem_cons, List.not_mem_nil, or_false] at h
  rcases h with rfl | rfl
  · exact k104.to rfl rfl
  · exact k118.to rfl rfl
set_option maxRecDepth 100000 in
theorem k98 : Kon Go.Proofs.Try.prog s98 F98 R98 := by
  refine con_ok h98 (by kernel_rfl) Go.Proofs.Try.func98 (by kernel_rfl) c98 ?_
  intro ls _ hr
  obtain ⟨hok, hrate, hfew⟩ := hr
  simp only [t98, Tr.den, L98, M98, ap, apR, if_true, Nat.reduceEqDiff, if_false, List.map_cons, List.map_nil, E.den, O1.ev, ev_add, ev_sub, ev_mul, ev_quo, ev_rem, ev_mx, ev_mn, ev_shl, ev_shr, ev_bit, ev_lt, ev_le, ev_eq, ev_and, ev_or, ev_eqb, ev_cat, ev_rcons, ev_rd, SameL, Col.same]
  simp only [setE_lt, setE_hit, Nat.reduceLT, Nat.reduceLeDiff, Nat.reduceAdd, Nat.reduceSub]
  simp only [E104 (outOf ls)]
  simp only [LV.Ii, LV.Bb, LV.Ll]
  simp only [F98]
  have ha : ∀ j, (((outOf ls 11).L.getD j []).getD 0 (.i 0)).I = atR (outOf ls 11).L j := fun _ => rfl
  have hv : ∀ j, (((outOf ls 11).L.getD j []).getD 1 (.i 0)).I = vR (outOf ls 11).L j := fun _ => rfl
  simp only [ha]
  simp only [hv]
  refine ⟨fun _ => trivial, ?_⟩
  by_cases hns : NoSpeed (outOf ls) (outOf ls 25).I (outOf ls 26).B
  · rw [if_pos (by simp only [Bool.or_eq_true, Bool.and_eq_true, Bool.not_eq_true', tf_t, tf_f, Bool.or_eq_false_iff, Bool.and_eq_false_iff]; exact hns)]
    simp only [speedC, if_pos hns]
    simp only [out22, out22', out22b, out22z, out22zb, zeroF, fset, implies_true, Nat.reduceEqDiff, if_true, if_false, setE_lt, setE_hit, Nat.reduceLT, Nat.reduceLeDiff, Nat.reduceAdd, Nat.reduceSub, outOf_z, outOf_s, LV.Ii, LV.Bb, LV.Ll, and_true, and_self, true_and]
  rw [if_neg (by simp only [Bool.or_eq_true, Bool.and_eq_true, Bool.not_eq_true', tf_t, tf_f, Bool.or_eq_false_iff, Bool.and_eq_false_iff]; exact hns)]
  simp only [speedC, if_neg hns]
  have hw : 0 < (outOf ls 11).L.length → IntKind.i64.wrap (((outOf ls 11).L.length : Int) - 1) = (((outOf ls 11).L.length - 1 : Nat) : Int) := by intro h; unfold Few at hfew; rw [wrap_i64 (by omega) (by omega)]; omega
  have t00 : tf ((0 : Int) ≤ 0) = true := (tf_t _).mpr (by omega)
  by_cases h0 : 0 < (outOf ls 11).L.length
  case neg =>
    have hz : tf ((0 : Int) < (outOf ls 11).L.length) = false := by rw [tf_f]; omega
    have hT : ¬ Tops (outOf ls) := fun h => h0 h.1
    simp only [hz, Bool.false_and, Bool.not_false, Bool.true_or, true_and, true_implies, Bool.false_eq_true, if_false, implies_true]
    refine ⟨?_, ?_⟩
    · unfold Few at hfew
      show (outOf [_, _, _, _, _] 0).L.length ≤ _
      simp only [outOf_z, LV.Ll]
      exact hfew
    · have e : speedArgs (outOf ls) (outOf ls 25).I = [.l (outOf ls 11).L, outOf ls 14, .i (min 1099511627776 (outOf ls 25).I), .i 10, .b true] := by
        unfold speedArgs
        rw [if_neg hT, if_neg hT]
      rw [e]
      simp only [out22, out22', out22b, out22z, out22zb, zeroF, fset, implies_true, Nat.reduceEqDiff, if_true, if_false, setE_lt, setE_hit, Nat.reduceLT, Nat.reduceLeDiff, Nat.reduceAdd, Nat.reduceSub, outOf_z, outOf_s, LV.Ii, LV.Bb, LV.Ll, and_true, and_self, true_and]
  rw [hw h0]
  have hz : tf ((0 : Int) < (outOf ls 11).L.length) = true := (tf_t _).mpr (by omega)
  have t1 : tf ((0 : Int) ≤ (((outOf ls 11).L.length - 1 : Nat) : Int)) = true := (tf_t _).mpr (by omega)
  have t2 : tf ((((outOf ls 11).L.length - 1 : Nat) : Int) < (outOf ls 11).L.length) = true := (tf_t _).mpr (by omega)
  have t3 : tf ((((outOf ls 11).L.length - 1 : Nat) : Int) ≤ (((outOf ls 11).L.length - 1 : Nat) : Int)) = true := (tf_t _).mpr (by omega)
  have t4 : tf ((((outOf ls 11).L.length - 1 : Nat) : Int) ≤ (outOf ls 11).L.length) = true := (tf_t _).mpr (by omega)
  have tz : (0 : Int).toNat = 0 := rfl
  simp only [Int.toNat_natCast, hz, t00, t1, t2, t3, t4, tz, List.drop_zero, Bool.or_true, Bool.true_and, true_and, true_implies, implies_true]
  refine ⟨?_, ?_⟩
  · unfold Few at hfew
    show (outOf [_, _, _, _, _] 0).L.length ≤ _
    simp only [outOf_z, LV.Ll]
    split
    · rw [List.length_take]; omega
    · exact hfew
  · have e : speedArgs (outOf ls) (outOf ls 25).I = [.l (if tf (atR (outOf ls 11).L ((outOf ls 11).L.length - 1) = (outOf ls 14).I) = true then (outOf ls 11).L.take ((outOf ls 11).L.length - 1) else (outOf ls 11).L), outOf ls 14,
        .i (if tf (atR (outOf ls 11).L ((outOf ls 11).L.length - 1) = (outOf ls 14).I) = true then max (min 1099511627776 (outOf ls 25).I) (vR (outOf ls 11).L ((outOf ls 11).L.length - 1)) else min 1099511627776 (outOf ls 25).I), .i 10, .b true] := by
      unfold speedArgs
      by_cases hT : atR (outOf ls 11).L ((outOf ls 11).L.length - 1) = (outOf ls 14).I
      · rw [if_pos ⟨h0, hT⟩, if_pos ⟨h0, hT⟩, if_pos ((tf_t _).mpr hT), if_pos ((tf_t _).mpr hT)]
      · rw [if_neg (fun h => hT h.2), if_neg (fun h => hT h.2), if_neg (fun h => hT ((tf_t _).mp h)), if_neg (fun h => hT ((tf_t _).mp h))]
    rw [e]
    simp only [out22, out22', out22b, out22z, out22zb, zeroF, fset, implies_true, Nat.reduceEqDiff, if_true, if_false, setE_lt, setE_hit, Nat.reduceLT, Nat.reduceLeDiff, Nat.reduceAdd, Nat.reduceSub, outOf_z, outOf_s, LV.Ii, LV.Bb, LV.Ll, and_true, and_self, true_and]
end Go.Proofs.Ythhnnfmfeofknaa.Sy
