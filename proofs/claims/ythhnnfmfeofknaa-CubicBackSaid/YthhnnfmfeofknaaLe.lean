/-
  CubicBack: for windows of 10 to 1000 segments of 100 bytes: once the time K is over, the window has come back to where it was at the loss, if enough is acknowledged; no condition.
-/
import Derived.Test.YthhnnfmfeofknaaCo
import Derived.Test.YthhnnfmfeofknaaLc
import Derived.Test.YthhnnfmfeofknaaRows
namespace Go.Proofs.Ythhnnfmfeofknaa.Sy
open Go Go.RowKit
set_option linter.unusedSimpArgs false
set_option linter.unusedVariables false

structure BackInv (s : Int) (i : Nat) (g : Nat → LV) : Prop where
  ok : CubicOk g
  m : (g 1).I = 100
  ss : (g 3).I = 70 * s
  wm : (g 5).I = 100 * s
  lo : 70 * s ≤ (g 2).I
  st : (i = 0 ∧ (g 6).I = -1 ∧ (g 2).I = 70 * s) ∨ (1 ≤ i ∧ i ≤ 110 ∧ (g 6).I = 0 ∧ (g 7).I ≤ 9999)
theorem cbrt_small {n : Int} (h : n ≤ 750000000000) : cbrtGo n 21 0 ≤ 9999 := by
  have hr := cbrtGo_root n
  generalize cbrtGo n 21 0 = r at *
  rcases hr.le with h0 | h0
  · omega
  · by_cases hlt : r < 10000
    · omega
    · have := cube_mono (a := 10000) (b := r) (by omega) (by omega)
      omega
theorem back_step {s : Int} {i : Nat} {g : Nat → LV} (hs : 10 ≤ s ∧ s ≤ 1000) (h : BackInv s i g) (now : LV) (hnow : now.I = (i : Int) * 100000) :
    (∀ j, j = i + 1 → (grown (begun' g now) (g 2).I now.I 0 7).I + 200 ≥ (i : Int) * 100 → BackInv s j (grown (begun' g now) (g 2).I now.I 0)) ∧
    0 ≤ (grown (begun' g now) (g 2).I now.I 0 7).I ∧ (grown (begun' g now) (g 2).I now.I 0 7).I ≤ 9999 ∧
    ((grown (begun' g now) (g 2).I now.I 0 7).I + 200 < (i : Int) * 100 → 100 * s ≤ (grown (begun' g now) (g 2).I now.I 0 2).I) := by
  obtain ⟨hok, hm, hss, hwm, hlo, hst⟩ := h
  have hok0 := hok
  unfold CubicOk Common at hok0
  have hi : (i : Int) ≤ 110 := by omega
  have hb : CubicOk (begun' g now) := begun'_ok hok ⟨by omega, by omega⟩
  have b1 : (begun' g now 1).I = 100 := by rw [← hm]; unfold begun'; split <;> rfl
  have b2 : (begun' g now 2).I = (g 2).I := by unfold begun'; split <;> rfl
  have b3 : (begun' g now 3).I = 70 * s := by rw [← hss]; unfold begun'; split <;> rfl
  have b567 : (begun' g now 5).I = 100 * s ∧ (begun' g now 6).I = 0 ∧ (begun' g now 7).I ≤ 9999 := by
    unfold begun'
    rcases hst with ⟨h1, h2, h3⟩ | ⟨h1, h2, h3, h4⟩
    · rw [if_pos (by omega)]
      simp only [begun, Nat.reduceEqDiff, if_true, if_false, LV.Ii]
      rw [if_pos (show (g 2).I < (g 5).I by omega), if_pos (show (g 2).I < (g 5).I by omega)]
      refine ⟨hwm, by omega, cbrt_small ?_⟩
      rw [hm, hwm, h3]
      unfold mulDiv
      omega
    · rw [if_neg (by omega)]
      exact ⟨hwm, h3, h4⟩
  generalize hbe : begun' g now = b at *
  obtain ⟨b5, b6, b7⟩ := b567
  have hb0 := hb
  unfold CubicOk Common at hb0
  have hn : SizeI (g 2).I := ⟨by omega, by omega⟩
  obtain ⟨k1, k2, _⟩ := grown_keeps (now := now.I) (srtt := 0) hb hn
  have k : ∀ i, i ≠ 2 → i ≠ 8 → grown b (g 2).I now.I 0 i = b i := fun i h1 h2 => by unfold grown; rw [if_neg h1, if_neg h2]
  have e2 : (grown b (g 2).I now.I 0 2).I = min 1073741824 (max (min 1073741824 ((b 8).I + 529 * (b 1).I * (g 2).I / (1000 * (b 2).I))) ((b 2).I + (clampI (curveI (b 1).I (b 5).I (b 7).I ((max 0 (now.I - (b 6).I) + 0) / 1000)) (b 2).I ((b 2).I + (b 2).I / 2) - (b 2).I) * (g 2).I / (b 2).I)) := rfl
  rw [b2] at k1
  rw [k 7 (by omega) (by omega)]
  refine ⟨fun j hj hc => ?_, by omega, b7, fun hc => ?_⟩
  · exact ⟨k2, by rw [k 1 (by omega) (by omega)]; exact b1, by rw [k 3 (by omega) (by omega)]; exact b3, by rw [k 5 (by omega) (by omega)]; exact b5, by omega, .inr ⟨by omega, by omega, by rw [k 6 (by omega) (by omega)]; exact b6, by rw [k 7 (by omega) (by omega)]; exact b7⟩⟩
  · rw [e2, b1, b2, b5, b6]
    have ht : (b 7).I ≤ (max 0 (now.I - 0) + 0) / 1000 := by omega
    have c1 := curve_mono (m := 100) (w := 100 * s) (k := (b 7).I) (by omega) ht
    rw [curve_at (by omega)] at c1
    generalize curveI 100 (100 * s) (b 7).I ((max 0 (now.I - 0) + 0) / 1000) = q at *
    have hwi : 100 * s ≤ clampI q (g 2).I ((g 2).I + (g 2).I / 2) := by unfold clampI; omega
    generalize clampI q (g 2).I ((g 2).I + (g 2).I / 2) = wi at *
    rw [Int.mul_ediv_cancel _ (show (g 2).I ≠ 0 by omega)]
    generalize (b 8).I + 529 * 100 * (g 2).I / (1000 * (g 2).I) = y at *
    omega
def start1 (s : Int) : Nat → LV := fset (fset (newC 100 10) 2 (.i (100 * s))) 3 (.i (100 * s))
theorem start1_ok {s : Int} (hs : 10 ≤ s ∧ s ≤ 1000) : CubicOk (start1 s) := by
  unfold CubicOk Common NoBbr start1
  simp only [fset, newC, zeroF, Nat.reduceEqDiff, if_true, if_false, LV.Ii, LV.Bb, LV.Ll, List.length_nil, true_and, and_true]
  omega
theorem start2_ok {s : Int} (hs : 10 ≤ s ∧ s ≤ 1000) : CubicOk (fell (start1 s)) := by
  unfold CubicOk Common NoBbr start1
  simp only [fell, fset, newC, zeroF, Nat.reduceEqDiff, if_true, if_false, LV.Ii, LV.Bb, LV.Ll, List.length_nil, true_and, and_true]
  omega
theorem E32s {s : Int} (hs : 10 ≤ s ∧ s ≤ 1000) : F32 [newC 100 10 0, newC 100 10 1, .i (100 * s), .i (100 * s), newC 100 10 4, newC 100 10 5, newC 100 10 6, newC 100 10 7, newC 100 10 8, newC 100 10 9, newC 100 10 10, newC 100 10 11, newC 100 10 12, newC 100 10 13, newC 100 10 14, newC 100 10 15, newC 100 10 16, newC 100 10 17, newC 100 10 18, newC 100 10 19, newC 100 10 20, newC 100 10 21, .i 0] = l22 (fell (start1 s)) ++ [.i 0] := by
  show F32 [start1 s 0, start1 s 1, start1 s 2, start1 s 3, start1 s 4, start1 s 5, start1 s 6, start1 s 7, start1 s 8, start1 s 9, start1 s 10, start1 s 11, start1 s 12, start1 s 13, start1 s 14, start1 s 15, start1 s 16, start1 s 17, start1 s 18, start1 s 19, start1 s 20, start1 s 21, .i 0] = _
  unfold F32
  rw [if_pos ((cok23 (start1 s) (.i 0)).2 (start1_ok hs))]
  simp only [outOf_z, outOf_s, LV.Ii]
  rw [if_pos (show SizeI 0 from ⟨by omega, by omega⟩)]
  rfl
theorem E33s {s : Int} (hs : 10 ≤ s ∧ s ≤ 1000) : F33 [fell (start1 s) 0, fell (start1 s) 1, fell (start1 s) 2, fell (start1 s) 3, fell (start1 s) 4, fell (start1 s) 5, fell (start1 s) 6, fell (start1 s) 7, fell (start1 s) 8, fell (start1 s) 9, fell (start1 s) 10, fell (start1 s) 11, fell (start1 s) 12, fell (start1 s) 13, fell (start1 s) 14, fell (start1 s) 15, fell (start1 s) 16, fell (start1 s) 17, fell (start1 s) 18, fell (start1 s) 19, fell (start1 s) 20, fell (start1 s) 21] = l22 (fset (fell (start1 s)) 2 (fell (start1 s) 3)) ++ [.i 0] := by
  unfold F33
  rw [if_pos ((cok22 (fell (start1 s))).2 (start2_ok hs))]
  rfl
theorem start_inv {s : Int} (hs : 10 ≤ s ∧ s ≤ 1000) : BackInv s 0 (fset (fell (start1 s)) 2 (fell (start1 s) 3)) := by
  have hc : (fell (start1 s) 3).I = 70 * s := by
    simp only [fell, start1, fset, newC, Nat.reduceEqDiff, if_true, if_false, LV.Ii]
    omega
  refine ⟨?_, rfl, hc, ?_, ?_, .inl ⟨rfl, rfl, hc⟩⟩
  · have := start2_ok hs
    unfold CubicOk Common NoBbr at this ⊢
    simp only [fset, Nat.reduceEqDiff, if_true, if_false]
    rw [hc] at this ⊢
    have h1 : (fell (start1 s) 1).I = 100 := rfl
    rw [h1] at this ⊢
    omega
  · simp only [fell, start1, fset, newC, zeroF, Nat.reduceEqDiff, if_true, if_false, LV.Ii]
    omega
  · show 70 * s ≤ (fell (start1 s) 3).I
    omega
theorem EN31 : FN31 [.i 100, .i 10] = l22 (newC 100 10) ++ [.i 0] := by
  unfold FN31
  simp only [outOf_z, outOf_s, LV.Ii]
  rw [if_pos ⟨⟨by omega, by omega⟩, by omega, by omega⟩]
theorem cons22 (i : Int) (g : Nat → LV) : [LV.i i, g 0, g 1, g 2, g 3, g 4, g 5, g 6, g 7, g 8, g 9, g 10, g 11, g 12, g 13, g 14, g 15, g 16, g 17, g 18, g 19, g 20, g 21] = .i i :: l22 g := rfl
/-! tideway/tidewaylaw16.CubicBack -/
def s8 : Sig := ⟨8, 8, [.col I64], [.col (.base .bool)]⟩
def t8 : Tr (List (Col × E)) :=
 (.ite (.op2 .or (.op2 .lt (.v 0) (.ki (10))) (.op2 .lt (.ki (1000)) (.v 0)))
 (.item (.bind 30 [] 1 1)
 (.item (.pre (.kb true) 30 [])
 (.leaf [((.base .bool), (.v 1))])))
 (.item (.bind 31 [(.ki (100)), (.ki (10))] 2 23)
 (.item (.pre (.kb true) 31 [(.ki (100)), (.ki (10))])
 (.item (.bind 32 [(.v 2), (.v 3), (.op1 (.wrap .i64) (.op2 .mul (.ki (100)) (.v 0))), (.op1 (.wrap .i64) (.op2 .mul (.ki (100)) (.v 0))), (.v 6), (.v 7), (.v 8), (.v 9), (.v 10), (.v 11), (.v 12), (.v 13), (.v 14), (.v 15), (.v 16), (.v 17), (.v 18), (.v 19), (.v 20), (.v 21), (.v 22), (.v 23), (.ki (0))] 25 23)
 (.item (.pre (.kb true) 32 [(.v 2), (.v 3), (.op1 (.wrap .i64) (.op2 .mul (.ki (100)) (.v 0))), (.op1 (.wrap .i64) (.op2 .mul (.ki (100)) (.v 0))), (.v 6), (.v 7), (.v 8), (.v 9), (.v 10), (.v 11), (.v 12), (.v 13), (.v 14), (.v 15), (.v 16), (.v 17), (.v 18), (.v 19), (.v 20), (.v 21), (.v 22), (.v 23), (.ki (0))])
 (.item (.bind 33 [(.v 25), (.v 26), (.v 27), (.v 28), (.v 29), (.v 30), (.v 31), (.v 32), (.v 33), (.v 34), (.v 35), (.v 36), (.v 37), (.v 38), (.v 39), (.v 40), (.v 41), (.v 42), (.v 43), (.v 44), (.v 45), (.v 46)] 48 23)
 (.item (.pre (.kb true) 33 [(.v 25), (.v 26), (.v 27), (.v 28), (.v 29), (.v 30), (.v 31), (.v 32), (.v 33), (.v 34), (.v 35), (.v 36), (.v 37), (.v 38), (.v 39), (.v 40), (.v 41), (.v 42), (.v 43), (.v 44), (.v 45), (.v 46)])
 (.ite (.op2 .or (.op2 .or (.op1 .not (.op2 .eq (.v 47) (.ki (0)))) (.op1 .not (.op2 .eq (.v 70) (.ki (0))))) (.op1 .not (.op2 .eq (.v 50) (.op1 (.wrap .i64) (.op2 .mul (.ki (70)) (.v 0))))))
  (.leaf [((.base .bool), (.kb false))])
  (.loop 71 23 [(.ki (0)), (.v 48), (.v 49), (.v 50), (.v 51), (.v 52), (.v 53), (.v 54), (.v 55), (.v 56), (.v 57), (.v 58), (.v 59), (.v 60), (.v 61), (.v 62), (.v 63), (.v 64), (.v 65), (.v 66), (.v 67), (.v 68), (.v 69)]
   (.ite (.op2 .le (.v 71) (.ki (400)))
    (.item (.bind 23 [(.v 72), (.v 73), (.v 74), (.v 75), (.v 76), (.v 77), (.v 78), (.v 79), (.v 80), (.v 81), (.v 82), (.v 83), (.v 84), (.v 85), (.v 86), (.v 87), (.v 88), (.v 89), (.v 90), (.v 91), (.v 92), (.v 93), (.v 74), (.op1 (.wrap .i64) (.op2 .mul (.v 71) (.ki (100000)))), (.ki (0)), (.kb false)] 94 23)
    (.item (.pre (.kb true) 23 [(.v 72), (.v 73), (.v 74), (.v 75), (.v 76), (.v 77), (.v 78), (.v 79), (.v 80), (.v 81), (.v 82), (.v 83), (.v 84), (.v 85), (.v 86), (.v 87), (.v 88), (.v 89), (.v 90), (.v 91), (.v 92), (.v 93), (.v 74), (.op1 (.wrap .i64) (.op2 .mul (.v 71) (.ki (100000)))), (.ki (0)), (.kb false)])
    (.ite (.op1 .not (.op2 .eq (.v 116) (.ki (0))))
     (.leaf [((.base .bool), (.kb false))])
     (.ite (.op2 .lt (.op1 (.wrap .i64) (.op2 .add (.v 101) (.ki (200)))) (.op1 (.wrap .i64) (.op2 .mul (.v 71) (.ki (100)))))
      (.item (.bind 30 [] 117 1)
      (.item (.pre (.op2 .le (.op1 (.wrap .i64) (.op2 .sub (.op1 (.wrap .i64) (.op2 .mul (.ki (100)) (.v 0))) (.ki (100)))) (.v 96)) 30 [])
      (.leaf [((.base .bool), (.op2 .and (.op2 .le (.op1 (.wrap .i64) (.op2 .sub (.op1 (.wrap .i64) (.op2 .mul (.ki (100)) (.v 0))) (.ki (100)))) (.v 96)) (.v 117)))])))
      (.next 0 [(.op1 (.wrap .i64) (.op2 .add (.v 71) (.ki (1)))), (.v 94), (.v 95), (.v 96), (.v 97), (.v 98), (.v 99), (.v 100), (.v 101), (.v 102), (.v 103), (.v 104), (.v 105), (.v 106), (.v 107), (.v 108), (.v 109), (.v 110), (.v 111), (.v 112), (.v 113), (.v 114), (.v 115)])))))
    (.item (.bind 30 [] 118 1)
    (.item (.pre (.op2 .le (.op1 (.wrap .i64) (.op2 .sub (.op1 (.wrap .i64) (.op2 .mul (.ki (100)) (.v 0))) (.ki (100)))) (.v 74)) 30 [])
    (.leaf [((.base .bool), (.op2 .and (.op2 .le (.op1 (.wrap .i64) (.op2 .sub (.op1 (.wrap .i64) (.op2 .mul (.ki (100)) (.v 0))) (.ki (100)))) (.v 74)) (.v 118)))])))))))))))))
theorem c8 : compile Go.Proofs.Try.prog [s23, s30, s31, s32, s33] Go.Proofs.Try.f8 s8.params s8.results = some t8 := by kernel_rfl
def L8 : List (Nat × (List LV → List LV)) := [(23, F23), (30, F30), (31, FN31), (32, F32), (33, F33)]
def M8 : List (Nat × (List LV → Prop)) := []
theorem h8 : ∀ sg, sg ∈ [s23, s30, s31, s32, s33] → ConOk Go.Proofs.Try.prog (ap L8) (apR M8) sg := by
  intro sg h
  simp only [List.mem_cons, List.not_mem_nil, or_false] at h
  rcases h with rfl | rfl | rfl | rfl | rfl
  · exact k23.to rfl rfl
  · exact k30.to rfl rfl
  · exact kN31.to rfl rfl
  · exact k32.to rfl rfl
  · exact k33.to rfl rfl
def F8 (_ : List LV) : List LV := [.b true]
def R8 (ls : List LV) : Prop := PFit s8.params ls
set_option maxRecDepth 100000 in
theorem k8 : Kon Go.Proofs.Try.prog s8 F8 R8 := by
  refine con_ok h8 (by kernel_rfl) Go.Proofs.Try.func8 (by kernel_rfl) c8 ?_
  intro ls _ hr
  simp only [t8, Tr.den, L8, M8, ap, apR, if_true, Nat.reduceEqDiff, if_false, List.map_cons, List.map_nil, E.den, O1.ev, ev_add, ev_sub, ev_mul, ev_quo, ev_rem, ev_mx, ev_mn, ev_shl, ev_shr, ev_bit, ev_lt, ev_le, ev_eq, ev_and, ev_or, ev_eqb, ev_cat, ev_rcons, ev_rd, SameL, Col.same, List.nil_append, nextAt]
  simp only [setE_lt, setE_hit, Nat.reduceLT, Nat.reduceLeDiff, Nat.reduceAdd, Nat.reduceSub]
  simp only [LV.Ii, LV.Bb, LV.Ll]
  simp only [F30, F8, outOf_z, LV.Bb, implies_true, true_implies, true_and, and_true]
  generalize (outOf ls 0).I = s at *
  by_cases hs : 10 ≤ s ∧ s ≤ 1000
  case neg =>
    rw [if_pos (by first | (simp only [Bool.or_eq_true, Bool.and_eq_true, Bool.not_eq_true', tf_t, tf_f, Bool.or_eq_false_iff, Bool.and_eq_false_iff, not_true_eq_false, not_false_eq_true, false_or, or_false, true_or, or_true, true_and, and_true]; done) | (simp only [Bool.or_eq_true, Bool.and_eq_true, Bool.not_eq_true', tf_t, tf_f, Bool.or_eq_false_iff, Bool.and_eq_false_iff, not_true_eq_false, not_false_eq_true, false_or, or_false, true_or, or_true, true_and, and_true]; omega))]
    trivial
  rw [if_neg (by first | (simp only [Bool.or_eq_true, Bool.and_eq_true, Bool.not_eq_true', tf_t, tf_f, Bool.or_eq_false_iff, Bool.and_eq_false_iff, not_true_eq_false, not_false_eq_true, false_or, or_false, true_or, or_true, true_and, and_true]; done) | (simp only [Bool.or_eq_true, Bool.and_eq_true, Bool.not_eq_true', tf_t, tf_f, Bool.or_eq_false_iff, Bool.and_eq_false_iff, not_true_eq_false, not_false_eq_true, false_or, or_false, true_or, or_true, true_and, and_true]; omega))]
  have w1 : IntKind.i64.wrap (100 * s) = 100 * s := wrap_i64 (by omega) (by omega)
  have w2 : IntKind.i64.wrap (70 * s) = 70 * s := wrap_i64 (by omega) (by omega)
  have w3 : IntKind.i64.wrap (100 * s - 100) = 100 * s - 100 := wrap_i64 (by omega) (by omega)
  simp only [w1, w2, w3, EN31]
  simp only [out22, out22b, setE_lt, setE_hit, Nat.reduceLT, Nat.reduceLeDiff, Nat.reduceAdd, Nat.reduceSub, outOf_z, outOf_s]
  simp only [E32s hs]
  simp only [out22, out22b, setE_lt, setE_hit, Nat.reduceLT, Nat.reduceLeDiff, Nat.reduceAdd, Nat.reduceSub, outOf_z, outOf_s]
  simp only [E33s hs]
  simp only [out22, out22b, setE_lt, setE_hit, Nat.reduceLT, Nat.reduceLeDiff, Nat.reduceAdd, Nat.reduceSub, outOf_z, outOf_s, LV.Ii]
  have hinv := start_inv hs
  have h2 : (fset (fell (start1 s)) 2 (fell (start1 s) 3) 2).I = 70 * s := by
    rcases hinv.st with h | h
    · exact h.2.2
    · omega
  rw [if_neg (by first | (simp only [Bool.or_eq_true, Bool.and_eq_true, Bool.not_eq_true', tf_t, tf_f, Bool.or_eq_false_iff, Bool.and_eq_false_iff, not_true_eq_false, not_false_eq_true, false_or, or_false, true_or, or_true, true_and, and_true]; done) | (simp only [Bool.or_eq_true, Bool.and_eq_true, Bool.not_eq_true', tf_t, tf_f, Bool.or_eq_false_iff, Bool.and_eq_false_iff, not_true_eq_false, not_false_eq_true, false_or, or_false, true_or, or_true, true_and, and_true]; omega))]
  rw [cons22]
  refine loop_ok (fun xs => ∃ (i : Nat) (g : Nat → LV), xs = .i i :: l22 g ∧ BackInv s i g) (fun xs => 401 - (outOf xs 0).I.toNat) ?_ ⟨0, _, rfl, hinv⟩
  clear hinv h2
  rintro xs ih ⟨i, g, rfl, hinv⟩ hih
  simp only [outOf_z, outOf_s, LV.Ii, out22', setE_lt, setE_hit, Nat.reduceLT, Nat.reduceLeDiff, Nat.reduceAdd, Nat.reduceSub]
  have hi : i ≤ 110 := by
    rcases hinv.st with h | h
    · omega
    · exact h.2.1
  rw [if_pos ((tf_t _).mpr (by omega))]
  have wn : IntKind.i64.wrap ((i : Int) * 100000) = (i : Int) * 100000 := wrap_i64 (by omega) (by omega)
  have wi : IntKind.i64.wrap ((i : Int) * 100) = (i : Int) * 100 := wrap_i64 (by omega) (by omega)
  have wj : IntKind.i64.wrap ((i : Int) + 1) = ((i + 1 : Nat) : Int) := by rw [wrap_i64 (by omega) (by omega)]; omega
  simp only [wn, wi, wj]
  have hok0 := hinv.ok
  unfold CubicOk Common at hok0
  have hlo := hinv.lo
  have hss := hinv.ss
  rw [E23grow g (g 2) (.i ((i : Int) * 100000)) (.i 0) hinv.ok ⟨by omega, by omega⟩ ⟨by simp only [LV.Ii]; omega, by simp only [LV.Ii]; omega⟩ ⟨by simp only [LV.Ii]; omega, by simp only [LV.Ii]; omega⟩ (by omega)]
  have hst := back_step hs hinv (.i ((i : Int) * 100000)) rfl
  simp only [LV.Ii] at hst ⊢
  generalize grown (begun' g (.i ((i : Int) * 100000))) (g 2).I ((i : Int) * 100000) 0 = g' at *
  simp only [out22, out22b, setE_lt, setE_hit, Nat.reduceLT, Nat.reduceLeDiff, Nat.reduceAdd, Nat.reduceSub, outOf_z, outOf_s, LV.Ii]
  obtain ⟨hnext, h0, hK, hdone⟩ := hst
  have wk : IntKind.i64.wrap ((g' 7).I + 200) = (g' 7).I + 200 := wrap_i64 (by omega) (by omega)
  rw [wk, if_neg (by first | (simp only [Bool.or_eq_true, Bool.and_eq_true, Bool.not_eq_true', tf_t, tf_f, Bool.or_eq_false_iff, Bool.and_eq_false_iff, not_true_eq_false, not_false_eq_true, false_or, or_false, true_or, or_true, true_and, and_true]; done) | (simp only [Bool.or_eq_true, Bool.and_eq_true, Bool.not_eq_true', tf_t, tf_f, Bool.or_eq_false_iff, Bool.and_eq_false_iff, not_true_eq_false, not_false_eq_true, false_or, or_false, true_or, or_true, true_and, and_true]; omega))]
  by_cases hc : (g' 7).I + 200 < (i : Int) * 100
  · rw [if_pos ((tf_t _).mpr hc)]
    have := hdone hc
    first | (simp only [Bool.or_eq_true, Bool.and_eq_true, Bool.not_eq_true', tf_t, tf_f, Bool.or_eq_false_iff, Bool.and_eq_false_iff, not_true_eq_false, not_false_eq_true, false_or, or_false, true_or, or_true, true_and, and_true]; done) | (simp only [Bool.or_eq_true, Bool.and_eq_true, Bool.not_eq_true', tf_t, tf_f, Bool.or_eq_false_iff, Bool.and_eq_false_iff, not_true_eq_false, not_false_eq_true, false_or, or_false, true_or, or_true, true_and, and_true]; omega)
  · rw [if_neg (fun h => hc ((tf_t _).mp h))]
    rw [cons22]
    exact hih _ ⟨i + 1, g', rfl, hnext _ rfl (by omega)⟩ (by simp only [outOf_z, LV.Ii]; omega)
end Go.Proofs.Ythhnnfmfeofknaa.Sy
namespace Go.Proofs.Ythhnnfmfeofknaa
open Go.ChangeShapes Go.WideShapes Go.ChangeAt Go.RowKit
theorem cubicBack_own : ownKnob Try.prog.godebug = none := by kernel_rfl
theorem cubicBack_laidOut : laidOutB Try.prog = true := by kernel_rfl
set_option maxRecDepth 100000 in
theorem cubicBack_lifted (os : Os) (started : os.Started) (H : Type) (enc : TypeId × Value → H) :
    ReturnsInHanded {} Try.checked os 8 .any (Rows.cubicBackSpec.pre6 enc Try.prog Try.f8 Rows.cubicBackRow.domain false) (Rows.cubicBackSpec.post enc Try.prog Try.f8 false true false false) := by
  refine returnsInHanded_of_change (C := Try.checked) cubicBack_own started (by kernel_rfl) Try.func8
    (ChangeSpec.witness6 (enc := enc) (C := Try.checked) false ⟨#[], #[.int .i64 0], []⟩ 8 (by kernel_rfl) (by kernel_rfl) (by kernel_rfl) (by kernel_rfl)) ?_
  intro W base args ds gs before hval0 hW hcnd _
  refine Sy.law_calls (b := 4) (s := Rows.cubicBackSpec) (Sy.k8.to (Φ := fun _ => Sy.F8) (Pr := fun _ => Sy.R8) rfl rfl) cubicBack_laidOut (by kernel_rfl) (by kernel_rfl) (by kernel_rfl) rfl ?_ (fun ls hf => ⟨hf, rfl⟩) hval0 hW
  intro ds hd
  have hd : ds.length = 1 := hd
  rcases ds with _ | ⟨d0, ds⟩
  · simp at hd
  rcases ds with _ | ⟨d, ds⟩
  · rfl
  · simp at hd
theorem cubicBack_holds : Rows.CubicBackSaid :=
  OpenClaim.holds_of_wide 8 Try.f8 rfl rfl rfl rfl rfl rfl rfl ⟨rfl, rfl, rfl, rfl, rfl⟩ rfl rfl rfl rfl rfl (by kernel_rfl) Try.func8 (by kernel_rfl)
    (of_decide_eq_true (by kernel_rfl)) (by unfold Func.isWrapper; first | (rw [if_pos (by decide +kernel)]; kernel_rfl) | (rw [if_neg (by decide +kernel)]; exact ⟨rfl, rfl⟩))
    (fun os started H enc _ => cubicBack_lifted os started H enc)
#print axioms cubicBack_holds
end Go.Proofs.Ythhnnfmfeofknaa

