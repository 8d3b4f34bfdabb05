/-
  seq.MulDiv, by hand.
-/
import Derived.Test.YthhnnfmfeofknaaCf
namespace Go.Proofs.Ythhnnfmfeofknaa.Sy
open Go Go.RowKit
set_option linter.unusedSimpArgs false
set_option linter.unusedVariables false

/-- As 'LV.I_i', 'LV.B_b', 'LV.L_l', but no step by computation: the kernel goes astray at great numerals else. -/
theorem LV.Ii (n : Int) : (LV.i n).I = n := Eq.trans rfl rfl
theorem LV.Bb (n : Bool) : (LV.b n).B = n := Eq.trans rfl rfl
theorem LV.Ll (n : List (List LV)) : (LV.l n).L = n := Eq.trans rfl rfl
def mulDiv (a b c : Int) : Int := min (a * b / c) 9223372036854775807
def mulDivL (a b c : Int) : List LV := if a < 0 ∨ b < 0 ∨ c ≤ 0 then [.i 0, .i 2] else [.i (mulDiv a b c), .i 0]
def F90 (ls : List LV) : List LV := mulDivL (outOf ls 0).I (outOf ls 1).I (outOf ls 2).I
def R90 (ls : List LV) : Prop := (outOf ls 0).I ≤ 9223372036854775807 ∧ (outOf ls 1).I ≤ 9223372036854775807 ∧ (outOf ls 2).I ≤ 9223372036854775807
set_option maxRecDepth 100000 in
theorem k90 : Kon Go.Proofs.Try.prog s90 F90 R90 := by
  refine con_ok h90 (by kernel_rfl) Go.Proofs.Try.func90 (by kernel_rfl) c90 ?_
  intro ls _ hr
  simp only [R90, F90] at hr ⊢
  generalize hx0 : outOf ls 0 = x0 at *
  generalize hx1 : outOf ls 1 = x1 at *
  generalize hx2 : outOf ls 2 = x2 at *
  show t90.den (ap [(111, F111), (112, F112)]) (apR [(111, R111), (112, R112)]) (outOf ls) [] _
  generalize hG : mulDivL x0.I x1.I x2.I = G
  generalize hf1 : F111 = f1
  generalize hf2 : F112 = f2
  generalize hg1 : R111 = g1
  generalize hg2 : R112 = g2
  simp only [t90, Tr.den, ap, apR, if_true, Nat.reduceEqDiff, if_false, List.map_cons, List.map_nil, E.den, O1.ev, O2.ev, SameL, Col.same]
  simp only [setE_lt, setE_hit, Nat.reduceLT, Nat.reduceLeDiff, Nat.reduceAdd, Nat.reduceSub]
  simp only [hx0, hx1, hx2]
  simp only [LV.Ii, LV.Bb]
  subst hf1 hf2 hg1 hg2 hG
  generalize x0.I = a at *
  generalize x1.I = b at *
  generalize x2.I = c at *
  obtain ⟨ha, hb, hc⟩ := hr
  by_cases hbad : a < 0 ∨ b < 0 ∨ c ≤ 0
  · rw [if_pos (by simp only [Bool.or_eq_true, decide_eq_true_eq]; omega)]
    simp only [mulDivL, if_pos hbad, outOf, List.getD_cons_zero, List.getD_cons_succ, LV.Ii]
    trivial
  · rw [if_neg (by simp only [Bool.or_eq_true, decide_eq_true_eq]; omega)]
    simp only [mulDivL, if_neg hbad]
    obtain ⟨x, rfl⟩ : ∃ x : Nat, a = (x : Int) := ⟨a.toNat, by omega⟩
    obtain ⟨y, rfl⟩ : ∃ y : Nat, b = (y : Int) := ⟨b.toNat, by omega⟩
    obtain ⟨z, rfl⟩ : ∃ z : Nat, c = (z : Int) := ⟨c.toNat, by omega⟩
    have wx : IntKind.u64.wrap (x : Int) = x := wrap_u64 (by omega) (by omega)
    have wy : IntKind.u64.wrap (y : Int) = y := wrap_u64 (by omega) (by omega)
    have wz : IntKind.u64.wrap (z : Int) = z := wrap_u64 (by omega) (by omega)
    simp only [wx, wy, wz]
    have hz : 0 < z := by omega
    have e111 : F111 [.i (x : Int), .i (y : Int)] = [.i ((x * y / 18446744073709551616 : Nat) : Int), .i ((x * y % 18446744073709551616 : Nat) : Int)] := by simp only [F111, outOf, List.getD_cons_zero, List.getD_cons_succ, LV.Ii, Int.toNat_natCast]
    rw [e111]
    have hdm : x * y / 18446744073709551616 * 18446744073709551616 + x * y % 18446744073709551616 = x * y := Nat.div_add_mod' _ _
    have hml : x * y % 18446744073709551616 < 18446744073709551616 := Nat.mod_lt _ (by decide)
    have hmd : mulDiv (x : Int) y z = min ((x * y / z : Nat) : Int) 9223372036854775807 := by
      unfold mulDiv
      rw [← Int.natCast_mul, ← Int.natCast_ediv]
    rw [hmd]
    simp only [outOf, List.getD_cons_zero, List.getD_cons_succ, LV.Ii]
    refine ⟨fun _ => ⟨⟨by simp only [outOf, List.getD_cons_zero, LV.Ii]; omega, by simp only [outOf, List.getD_cons_zero, LV.Ii]; omega⟩, by simp only [outOf, List.getD_cons_succ, List.getD_cons_zero, LV.Ii]; omega, by simp only [outOf, List.getD_cons_succ, List.getD_cons_zero, LV.Ii]; omega⟩, ?_⟩
    generalize hh : x * y / 18446744073709551616 = h at *
    generalize x * y % 18446744073709551616 = l at *
    by_cases hcz : (z : Int) ≤ h
    · rw [if_pos (decide_eq_true hcz)]
      have h1 : 9223372036854775807 ≤ x * y / z := by
        rw [Nat.le_div_iff_mul_le hz]
        have : z * 18446744073709551616 ≤ h * 18446744073709551616 := Nat.mul_le_mul_right _ (by omega)
        omega
      generalize x * y / z = q at *
      exact ⟨by omega, trivial, trivial⟩
    · rw [if_neg (fun h => hcz (of_decide_eq_true h))]
      have e112 : F112 [.i (h : Int), .i (l : Int), .i (z : Int)] = [.i (((h * 18446744073709551616 + l) / z : Nat) : Int), .i (((h * 18446744073709551616 + l) % z : Nat) : Int)] := by simp only [F112, outOf, List.getD_cons_zero, List.getD_cons_succ, LV.Ii, Int.toNat_natCast]
      rw [e112, hdm]
      simp only [List.getD_cons_zero, LV.Ii]
      refine ⟨fun _ => ?_, ?_, trivial, trivial⟩
      · simp only [R112, outOf, List.getD_cons_zero, List.getD_cons_succ, LV.Ii]
        omega
      · have := Int.natCast_nonneg (x * y / z)
        generalize x * y / z = q at *
        rw [wrap_i64 (by omega) (by omega)]
end Go.Proofs.Ythhnnfmfeofknaa.Sy
