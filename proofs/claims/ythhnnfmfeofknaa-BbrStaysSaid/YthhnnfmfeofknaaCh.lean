/-
  The reference's MulDiv, bit by bit, is the same number.
-/
import Derived.Test.YthhnnfmfeofknaaCg
namespace Go.Proofs.Ythhnnfmfeofknaa.Sy
open Go Go.RowKit
set_option linter.unusedSimpArgs false
set_option linter.unusedVariables false

/-- One round, on numbers: q and r of twice the product, and of a bit more. -/
theorem round2 {q r c P : Nat} (h : q * c + r = P) (hr : r < c) : ∃ q2 r2 : Nat, r2 < c ∧ q2 * c + r2 = 2 * P ∧ q2 ≤ 2 * q + 1 ∧ ((c ≤ 2 * r ∧ q2 = 2 * q + 1 ∧ r2 = 2 * r - c) ∨ (2 * r < c ∧ q2 = 2 * q ∧ r2 = 2 * r)) := by
  by_cases hc : c ≤ 2 * r
  · refine ⟨2 * q + 1, 2 * r - c, by omega, ?_, by omega, .inl ⟨hc, rfl, rfl⟩⟩
    rw [Nat.add_mul, Nat.mul_assoc]; omega
  · refine ⟨2 * q, 2 * r, by omega, ?_, by omega, .inr ⟨by omega, rfl, rfl⟩⟩
    rw [Nat.mul_assoc]; omega
theorem round3 {q r c P b : Nat} (h : q * c + r = P) (hr : r < c) : ∃ q2 r2 : Nat, r2 < c ∧ q2 * c + r2 = P + b ∧ ((c ≤ r + b % c ∧ q2 = q + b / c + 1 ∧ r2 = r + b % c - c) ∨ (r + b % c < c ∧ q2 = q + b / c ∧ r2 = r + b % c)) := by
  have hb : b / c * c + b % c = b := Nat.div_add_mod' b c
  have hm : b % c < c := Nat.mod_lt _ (by omega)
  by_cases hc : c ≤ r + b % c
  · refine ⟨q + b / c + 1, r + b % c - c, by omega, ?_, .inl ⟨hc, rfl, rfl⟩⟩
    rw [Nat.add_mul, Nat.add_mul]; omega
  · refine ⟨q + b / c, r + b % c, by omega, ?_, .inr ⟨by omega, rfl, rfl⟩⟩
    rw [Nat.add_mul]; omega
/-- A number's quotient from its first bits'. -/
theorem over_most {a b c A M : Nat} (hA : A ≤ a) (hc : 0 < c) (h : M * c ≤ A * b) : M ≤ a * b / c := by
  rw [Nat.le_div_iff_mul_le hc]
  exact Nat.le_trans h (Nat.mul_le_mul_right _ hA)
theorem bit_next (a k : Nat) : a / 2 ^ k = 2 * (a / 2 ^ (k + 1)) + a / 2 ^ k % 2 := by
  rw [Nat.pow_succ, ← Nat.div_div_eq_div_mul]
  omega
set_option maxRecDepth 100000 in
theorem k68 : Kon Go.Proofs.Try.prog s68 F90 R90 := by
  refine con_ok h68 (by kernel_rfl) Go.Proofs.Try.func68 (by kernel_rfl) c68 ?_
  intro ls _ hr
  have e0 : ∀ xs, setE (outOf ls) 3 4 xs 0 = outOf ls 0 := fun _ => setE_lt (by omega)
  have e1 : ∀ xs, setE (outOf ls) 3 4 xs 1 = outOf ls 1 := fun _ => setE_lt (by omega)
  have e2 : ∀ xs, setE (outOf ls) 3 4 xs 2 = outOf ls 2 := fun _ => setE_lt (by omega)
  have e3 : ∀ xs, setE (outOf ls) 3 4 xs 3 = outOf xs 0 := fun _ => setE_in (i := 0) (by omega)
  have e4 : ∀ xs, setE (outOf ls) 3 4 xs 4 = outOf xs 1 := fun _ => setE_in (i := 1) (by omega)
  have e5 : ∀ xs, setE (outOf ls) 3 4 xs 5 = outOf xs 2 := fun _ => setE_in (i := 2) (by omega)
  have e6 : ∀ xs, setE (outOf ls) 3 4 xs 6 = outOf xs 3 := fun _ => setE_in (i := 3) (by omega)
  simp only [R90, F90] at hr ⊢
  generalize hG : mulDivL (outOf ls 0).I (outOf ls 1).I (outOf ls 2).I = G
  simp only [t68, Tr.den, List.nil_append, List.map_cons, List.map_nil, E.den, e0, e1, e2, e3, e4, e5, e6, O2.ev, O1.ev, nextAt, SameL, Col.same]
  clear e0 e1 e2 e3 e4 e5 e6
  simp only [LV.Ii, LV.Bb]
  generalize (outOf ls 0).I = a at *
  generalize (outOf ls 1).I = b at *
  generalize (outOf ls 2).I = c at *
  obtain ⟨ha, hb, hc⟩ := hr
  by_cases hbad : a < 0 ∨ b < 0 ∨ c ≤ 0
  · rw [if_pos (by simp only [Bool.or_eq_true, decide_eq_true_eq]; omega)]
    rw [← hG]
    simp only [mulDivL, if_pos hbad, outOf, List.getD_cons_zero, List.getD_cons_succ, LV.Ii]
    trivial
  rw [if_neg (by simp only [Bool.or_eq_true, decide_eq_true_eq]; omega)]
  obtain ⟨a, rfl⟩ : ∃ x : Nat, a = (x : Int) := ⟨a.toNat, by omega⟩
  obtain ⟨b, rfl⟩ : ∃ y : Nat, b = (y : Int) := ⟨b.toNat, by omega⟩
  obtain ⟨c, rfl⟩ : ∃ z : Nat, c = (z : Int) := ⟨c.toNat, by omega⟩
  have hc0 : 0 < c := by omega
  have wb : IntKind.u64.wrap (b : Int) = b := wrap_u64 (by omega) (by omega)
  have wc : IntKind.u64.wrap (c : Int) = c := wrap_u64 (by omega) (by omega)
  have hbc : b / c ≤ b := Nat.div_le_self _ _
  have hbm : b % c < c := Nat.mod_lt _ hc0
  have hbcn := Int.natCast_nonneg (b / c)
  have hbmn := Int.natCast_nonneg (b % c)
  have wq : IntKind.u64.wrap ((b : Int).tdiv c) = ((b / c : Nat) : Int) := by rw [Int.tdiv_eq_ediv_of_nonneg (by omega), ← Int.natCast_ediv, wrap_u64 (by omega) (by omega)]
  have wr : (b : Int).tmod c = ((b % c : Nat) : Int) := by rw [Int.tmod_eq_emod_of_nonneg (by omega), ← Int.natCast_emod]
  simp only [wb, wc, wq, wr]
  have hmd : mulDiv (a : Int) b c = min ((a * b / c : Nat) : Int) 9223372036854775807 := by
    unfold mulDiv
    rw [← Int.natCast_mul, ← Int.natCast_ediv]
  simp only [mulDivL, if_neg hbad, hmd] at hG
  have hGM : 9223372036854775807 ≤ a * b / c → (9223372036854775807 : Int) = (outOf G 0).I ∧ (0 : Int) = (outOf G 1).I ∧ True := by
    intro h
    rw [← hG]
    simp only [outOf, List.getD_cons_zero, List.getD_cons_succ, LV.Ii]
    generalize a * b / c = q at *
    exact ⟨by omega, trivial, trivial⟩
  have hcz : (!decide ((c : Int) = 0)) = true := by simp; omega
  refine ⟨hcz, hcz, ?_⟩
  refine loop_ok (fun xs => ∃ j q r : Nat, xs = [.i ((j : Int) - 1), .b false, .i q, .i r] ∧ j ≤ 63 ∧ r < c ∧ q * c + r = a / 2 ^ j * b ∧ q ≤ 9223372036854775807) (fun xs => ((outOf xs 0).I + 1).toNat) ?_
    ⟨63, 0, 0, rfl, by omega, hc0, by rw [Nat.div_eq_of_lt (by omega)]; simp, by omega⟩
  rintro xs ih ⟨j, q, r, rfl, hj, hrc, hinv, hq⟩ hih
  simp only [outOf, List.getD_cons_zero, List.getD_cons_succ, LV.Ii, LV.Bb, Bool.false_or]
  simp only [outOf] at hG hGM
  cases j with
  | zero =>
    rw [if_neg (by rw [decide_eq_true_eq]; omega)]
    rw [← hG]
    simp only [List.getD_cons_zero, List.getD_cons_succ, LV.Ii]
    rw [Nat.pow_zero, Nat.div_one] at hinv
    have : a * b / c = q := by rw [← hinv, Nat.mul_comm q c, Nat.mul_add_div hc0, Nat.div_eq_of_lt hrc, Nat.add_zero]
    rw [this, wrap_i64 (by omega) (by omega)]
    exact ⟨by omega, trivial, trivial⟩
  | succ k =>
    have hk : ((k + 1 : Nat) : Int) - 1 = (k : Int) := by omega
    rw [hk, if_pos (by rw [decide_eq_true_eq]; omega)]
    have wk : IntKind.u64.wrap (k : Int) = k := wrap_u64 (by omega) (by omega)
    have hmin : min (k : Int).toNat IntKind.i64.bits = k := by rw [Int.toNat_natCast]; show min k 64 = k; omega
    have hsh : (a : Int).fdiv (2 ^ k) = ((a / 2 ^ k : Nat) : Int) := by
      rw [Int.fdiv_eq_ediv_of_nonneg _ (Int.le_of_lt (Int.pow_pos (by omega))), Int.natCast_ediv]; simp
    have hle : a / 2 ^ k ≤ a := Nat.div_le_self _ _
    have hand : bitI .and .i64 ((a / 2 ^ k : Nat) : Int) 1 = ((a / 2 ^ k % 2 : Nat) : Int) := by
      have := bitI_i64 .and (a / 2 ^ k) 1 (by omega) (by omega)
      simp only at this
      rw [show ((1 : Nat) : Int) = 1 from rfl] at this
      rw [this, Nat.and_one_is_mod, wrap_i64 (by omega) (by omega)]
    simp only [wk, hmin, hsh, hand]
    refine ⟨by rw [decide_eq_true_eq]; omega, ?_⟩
    have hnext := bit_next a k
    have h2P : a / 2 ^ k * b = 2 * (a / 2 ^ (k + 1) * b) + a / 2 ^ k % 2 * b := by
      conv => lhs; rw [hnext, Nat.add_mul, Nat.mul_assoc]
    have hbit : a / 2 ^ k % 2 < 2 := Nat.mod_lt _ (by omega)
    generalize a / 2 ^ k % 2 = bt at *
    generalize a / 2 ^ (k + 1) * b = P at *
    by_cases hbig : 4611686018427387904 ≤ q
    · have hM := hGM (over_most (A := a / 2 ^ k) hle hc0 (by
        have : 4611686018427387904 * c ≤ q * c := Nat.mul_le_mul_right _ hbig
        omega))
      rw [if_pos]
      · exact hM
      · have h1 : decide (4611686018427387904 ≤ (q : Int)) = true := by rw [decide_eq_true_eq]; omega
        simp only [h1, Bool.true_or, ite_self]
    · have h1 : decide (4611686018427387904 ≤ (q : Int)) = false := by rw [decide_eq_false_iff_not]; omega
      obtain ⟨q2, r2, hr2, hP2, hq2, hcase⟩ := round2 hinv hrc
      have w2r : IntKind.u64.wrap (2 * (r : Int)) = 2 * r := wrap_u64 (by omega) (by omega)
      have w2q : IntKind.u64.wrap (2 * (q : Int)) = 2 * q := wrap_u64 (by omega) (by omega)
      have w2q1 : IntKind.u64.wrap (2 * (q : Int) + 1) = 2 * q + 1 := wrap_u64 (by omega) (by omega)
      have eq2 : (if decide ((c : Int) ≤ 2 * r) = true then (2 * (q : Int) + 1) else 2 * (q : Int)) = (q2 : Int) := by
        rcases hcase with ⟨h, h3, _⟩ | ⟨h, h3, _⟩
        · rw [if_pos (by rw [decide_eq_true_eq]; omega)]; omega
        · rw [if_neg (by rw [decide_eq_true_eq]; omega)]; omega
      have er2 : (if decide ((c : Int) ≤ 2 * r) = true then IntKind.u64.wrap (2 * (r : Int) - c) else 2 * (r : Int)) = (r2 : Int) := by
        rcases hcase with ⟨h, _, h3⟩ | ⟨h, _, h3⟩
        · rw [if_pos (by rw [decide_eq_true_eq]; omega), wrap_u64 (by omega) (by omega)]; omega
        · rw [if_neg (by rw [decide_eq_true_eq]; omega)]; omega
      simp only [h1, Bool.false_or, w2r, w2q, w2q1, eq2, er2]
      clear hcase
      have wmb : IntKind.u64.wrap (9223372036854775807 - ((b / c : Nat) : Int)) = 9223372036854775807 - ((b / c : Nat) : Int) := wrap_u64 (by omega) (by omega)
      simp only [wmb]
      by_cases hb1 : bt = 1
      · subst hb1
        simp only [Int.ofNat_one, Int.natCast_one, decide_true, if_true]
        rw [Nat.one_mul, ← hP2] at h2P
        by_cases hov : 9223372036854775807 - ((b / c : Nat) : Int) < q2
        · rw [if_pos (by simp only [Bool.or_eq_true, decide_eq_true_eq]; exact .inl hov)]
          refine hGM (over_most (A := a / 2 ^ k) hle hc0 ?_)
          have : 9223372036854775807 * c ≤ (q2 + b / c) * c := Nat.mul_le_mul_right _ (by omega)
          rw [Nat.add_mul] at this
          have := Nat.div_add_mod' b c
          omega
        · obtain ⟨q3, r3, hr3, hP3, hcase⟩ := round3 (b := b) (show q2 * c + r2 = q2 * c + r2 from rfl) hr2
          have wrr : IntKind.u64.wrap ((r2 : Int) + ((b % c : Nat) : Int)) = (r2 : Int) + ((b % c : Nat) : Int) := wrap_u64 (by omega) (by omega)
          have wqq : IntKind.u64.wrap ((q2 : Int) + ((b / c : Nat) : Int)) = (q2 : Int) + ((b / c : Nat) : Int) := wrap_u64 (by omega) (by omega)
          have wqq1 : IntKind.u64.wrap ((q2 : Int) + ((b / c : Nat) : Int) + 1) = (q2 : Int) + ((b / c : Nat) : Int) + 1 := wrap_u64 (by omega) (by omega)
          have eq3 : (if decide ((c : Int) ≤ (r2 : Int) + ((b % c : Nat) : Int)) = true then ((q2 : Int) + ((b / c : Nat) : Int) + 1) else (q2 : Int) + ((b / c : Nat) : Int)) = (q3 : Int) := by
            rcases hcase with ⟨h, h3, _⟩ | ⟨h, h3, _⟩
            · rw [if_pos (by rw [decide_eq_true_eq]; omega)]; omega
            · rw [if_neg (by rw [decide_eq_true_eq]; omega)]; omega
          have er3 : (if decide ((c : Int) ≤ (r2 : Int) + ((b % c : Nat) : Int)) = true then IntKind.u64.wrap ((r2 : Int) + ((b % c : Nat) : Int) - c) else (r2 : Int) + ((b % c : Nat) : Int)) = (r3 : Int) := by
            rcases hcase with ⟨h, _, h3⟩ | ⟨h, _, h3⟩
            · rw [if_pos (by rw [decide_eq_true_eq]; omega), wrap_u64 (by omega) (by omega)]; omega
            · rw [if_neg (by rw [decide_eq_true_eq]; omega)]; omega
          simp only [wrr, wqq, wqq1, eq3, er3]
          clear hcase
          have hof : decide (9223372036854775807 - ((b / c : Nat) : Int) < (q2 : Int)) = false := by rw [decide_eq_false_iff_not]; exact hov
          simp only [hof, Bool.false_or]
          by_cases h63 : 9223372036854775807 < q3
          · rw [if_pos (by rw [decide_eq_true_eq]; omega)]
            refine hGM (over_most (A := a / 2 ^ k) hle hc0 ?_)
            have : 9223372036854775807 * c ≤ q3 * c := Nat.mul_le_mul_right _ (by omega)
            omega
          · rw [if_neg (by rw [decide_eq_true_eq]; omega), wrap_i64 (by omega) (by omega)]
            exact hih _ ⟨k, q3, r3, rfl, by omega, hr3, by omega, by omega⟩ (by simp only [outOf, List.getD_cons_zero, LV.Ii]; omega)
      · have hb0 : bt = 0 := by omega
        subst hb0
        have hd : decide (((0 : Nat) : Int) = 1) = false := by decide
        simp only [hd, Bool.false_eq_true, if_false, Bool.false_or]
        rw [Nat.zero_mul, Nat.add_zero, ← hP2] at h2P
        by_cases h63 : 9223372036854775807 < q2
        · rw [if_pos (by rw [decide_eq_true_eq]; omega)]
          refine hGM (over_most (A := a / 2 ^ k) hle hc0 ?_)
          have : 9223372036854775807 * c ≤ q2 * c := Nat.mul_le_mul_right _ (by omega)
          omega
        · rw [if_neg (by rw [decide_eq_true_eq]; omega), wrap_i64 (by omega) (by omega)]
          exact hih _ ⟨k, q2, r2, rfl, by omega, hr2, by omega, by omega⟩ (by simp only [outOf, List.getD_cons_zero, LV.Ii]; omega)
end Go.Proofs.Ythhnnfmfeofknaa.Sy
