/-
  Plain: what the growth of cubic's window keeps; an acknowledgement's outcome on a controller that may be.
-/
import Derived.Test.YthhnnfmfeofknaaCn
namespace Go.Proofs.Ythhnnfmfeofknaa.Sy
open Go Go.RowKit
set_option linter.unusedSimpArgs false
set_option linter.unusedVariables false

theorem cok26 (g : Nat → LV) (a b c d : LV) : CubicOk (outOf [g 0, g 1, g 2, g 3, g 4, g 5, g 6, g 7, g 8, g 9, g 10, g 11, g 12, g 13, g 14, g 15, g 16, g 17, g 18, g 19, g 20, g 21, a, b, c, d]) ↔ CubicOk g := Iff.rfl
theorem E23grow (g : Nat → LV) (n now srtt : LV) (hok : CubicOk g) (hn : SizeI n.I) (hnow : TimeI now.I) (hs : TimeI srtt.I) (hc : ¬ (g 2).I < (g 3).I) : F23 [g 0, g 1, g 2, g 3, g 4, g 5, g 6, g 7, g 8, g 9, g 10, g 11, g 12, g 13, g 14, g 15, g 16, g 17, g 18, g 19, g 20, g 21, n, now, srtt, .b false] = l22 (grown (begun' g now) n.I now.I srtt.I) ++ [.i 0] := by
  unfold F23
  simp only [cok26, if_pos hok, outOf_z, outOf_s, LV.Bb, Bool.false_eq_true, if_false, if_neg hc]
  rw [if_pos ⟨hn, hnow, hs⟩]
  unfold l22 begun'
  simp only [outOf_z, outOf_s]
  split <;> rfl
theorem E23slow (g : Nat → LV) (n now srtt : LV) (hok : CubicOk g) (hn : SizeI n.I) (hnow : TimeI now.I) (hs : TimeI srtt.I) (hc : (g 2).I < (g 3).I) : F23 [g 0, g 1, g 2, g 3, g 4, g 5, g 6, g 7, g 8, g 9, g 10, g 11, g 12, g 13, g 14, g 15, g 16, g 17, g 18, g 19, g 20, g 21, n, now, srtt, .b false] = l22 (fset g 2 (.i (min 1073741824 ((g 2).I + min n.I (g 1).I)))) ++ [.i 0] := by
  unfold F23
  simp only [cok26, if_pos hok, outOf_z, outOf_s, LV.Bb, Bool.false_eq_true, if_false, if_pos hc]
  rw [if_pos ⟨hn, hnow, hs⟩]
  rfl
theorem E23arg (g : Nat → LV) (n now srtt b : LV) (hok : CubicOk g) (hb : ¬ (SizeI n.I ∧ TimeI now.I ∧ TimeI srtt.I)) : F23 [g 0, g 1, g 2, g 3, g 4, g 5, g 6, g 7, g 8, g 9, g 10, g 11, g 12, g 13, g 14, g 15, g 16, g 17, g 18, g 19, g 20, g 21, n, now, srtt, b] = z22 ++ [.i 2] := by
  unfold F23
  simp only [cok26, if_pos hok, outOf_z, outOf_s]
  rw [if_neg hb]
theorem E23bad (g : Nat → LV) (n now srtt b : LV) (hok : ¬ CubicOk g) : F23 [g 0, g 1, g 2, g 3, g 4, g 5, g 6, g 7, g 8, g 9, g 10, g 11, g 12, g 13, g 14, g 15, g 16, g 17, g 18, g 19, g 20, g 21, n, now, srtt, b] = z22 ++ [.i 230] := by
  unfold F23
  simp only [cok26, if_neg hok]
theorem begun'_ok {f : Nat → LV} {now : LV} (h : CubicOk f) (hn : TimeI now.I) : CubicOk (begun' f now) := by
  unfold begun'
  split
  · exact begun_ok h hn
  · exact h
/-- What the growth keeps, at whatever controller may be. -/
theorem grown_keeps {g : Nat → LV} {n now srtt : Int} (h : CubicOk g) (hn : SizeI n) : (g 2).I ≤ (grown g n now srtt 2).I ∧ CubicOk (grown g n now srtt) ∧ (n ≤ (g 2).I → (g 8).I = (g 2).I → (grown g n now srtt 2).I ≤ (g 2).I + (g 2).I / 2 + (g 1).I) := by
  have h' := h
  unfold CubicOk Common at h'
  have hwr := clampI_range (curveI (g 1).I (g 5).I (g 7).I ((max 0 (now - (g 6).I) + srtt) / 1000)) (l := (g 2).I) (h := (g 2).I + (g 2).I / 2) (by omega)
  have e2 : (grown g n now srtt 2).I = min 1073741824 (max (min 1073741824 ((g 8).I + 529 * (g 1).I * n / (1000 * (g 2).I))) ((g 2).I + (clampI (curveI (g 1).I (g 5).I (g 7).I ((max 0 (now - (g 6).I) + srtt) / 1000)) (g 2).I ((g 2).I + (g 2).I / 2) - (g 2).I) * n / (g 2).I)) := rfl
  have e8 : (grown g n now srtt 8).I = min 1073741824 ((g 8).I + 529 * (g 1).I * n / (1000 * (g 2).I)) := rfl
  generalize clampI (curveI (g 1).I (g 5).I (g 7).I ((max 0 (now - (g 6).I) + srtt) / 1000)) (g 2).I ((g 2).I + (g 2).I / 2) = wi at *
  have na := mulDiv_nonneg (a := 529 * (g 1).I) (b := n) (c := 1000 * (g 2).I) (by omega) hn.1 (by omega)
  have nb := mulDiv_nonneg (a := wi - (g 2).I) (b := n) (c := (g 2).I) (by omega) hn.1 (by omega)
  have ua : n ≤ (g 2).I → 529 * (g 1).I * n / (1000 * (g 2).I) ≤ (g 1).I := by
    intro hle
    refine Int.ediv_le_of_le_mul (by omega) ?_
    have q1 : 529 * (g 1).I * n ≤ 529 * (g 1).I * (g 2).I := Int.mul_le_mul_of_nonneg_left hle (by omega)
    have q2 : 529 * (g 1).I * (g 2).I = 529 * ((g 1).I * (g 2).I) := Int.mul_assoc _ _ _
    have q3 : (g 1).I * (1000 * (g 2).I) = 1000 * ((g 1).I * (g 2).I) := by rw [Int.mul_left_comm]
    have q4 : 0 ≤ (g 1).I * (g 2).I := Int.mul_nonneg (by omega) (by omega)
    omega
  have ub : n ≤ (g 2).I → (wi - (g 2).I) * n / (g 2).I ≤ wi - (g 2).I := by
    intro hle
    refine Int.ediv_le_of_le_mul (by omega) ?_
    exact Int.mul_le_mul_of_nonneg_left hle (by omega)
  generalize 529 * (g 1).I * n / (1000 * (g 2).I) = va at *
  generalize (wi - (g 2).I) * n / (g 2).I = vb at *
  refine ⟨by rw [e2]; omega, ?_, fun hle h8 => ?_⟩
  · have k : ∀ i, i ≠ 2 → i ≠ 8 → grown g n now srtt i = g i := fun i h1 h2 => by unfold grown; rw [if_neg h1, if_neg h2]
    unfold CubicOk Common NoBbr at h ⊢
    rw [e2, e8, k 0 (by omega) (by omega), k 1 (by omega) (by omega), k 3 (by omega) (by omega), k 4 (by omega) (by omega), k 5 (by omega) (by omega), k 6 (by omega) (by omega), k 7 (by omega) (by omega), k 9 (by omega) (by omega), k 10 (by omega) (by omega), k 11 (by omega) (by omega),
      k 12 (by omega) (by omega), k 13 (by omega) (by omega), k 14 (by omega) (by omega), k 15 (by omega) (by omega), k 16 (by omega) (by omega), k 17 (by omega) (by omega), k 18 (by omega) (by omega), k 19 (by omega) (by omega), k 20 (by omega) (by omega), k 21 (by omega) (by omega)]
    omega
  · have := ua hle
    have := ub hle
    rw [e2]
    omega
end Go.Proofs.Ythhnnfmfeofknaa.Sy
