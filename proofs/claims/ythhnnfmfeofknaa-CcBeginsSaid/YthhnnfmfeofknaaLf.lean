/-
  CcBegins: for every kind and all numbers: a fresh controller is what the reference says, and may be; no condition.
-/
import Derived.Test.YthhnnfmfeofknaaCs
import Derived.Test.YthhnnfmfeofknaaRows
namespace Go.Proofs.Ythhnnfmfeofknaa.Sy
open Go Go.RowKit
set_option linter.unusedSimpArgs false
set_option linter.unusedVariables false

/-! tideway/tidewaylaw19.CcBegins -/
def s10 : Sig := ⟨10, 10, [.col I64, .col I64, .col I64], [.col (.base .bool)]⟩
def t10 : Tr (List (Col × E)) :=
 (.item (.bind 39 [(.v 0), (.v 1), (.v 2)] 3 23)
 (.item (.pre (.kb true) 39 [(.v 0), (.v 1), (.v 2)])
 (.item (.bind 40 [(.v 0), (.v 1), (.v 2)] 26 23)
 (.item (.pre (.kb true) 40 [(.v 0), (.v 1), (.v 2)])
 (.item (.bind 25 [(.v 3), (.v 4), (.v 5), (.v 6), (.v 7), (.v 8), (.v 9), (.v 10), (.v 11), (.v 12), (.v 13), (.v 14), (.v 15), (.v 16), (.v 17), (.v 18), (.v 19), (.v 20), (.v 21), (.v 22), (.v 23), (.v 24), (.v 26), (.v 27), (.v 28), (.v 29), (.v 30), (.v 31), (.v 32), (.v 33), (.v 34), (.v 35), (.v 36), (.v 37), (.v 38), (.v 39), (.v 40), (.v 41), (.v 42), (.v 43), (.v 44), (.v 45), (.v 46), (.v 47)] 49 1)
 (.item (.bind 41 [(.v 3), (.v 4), (.v 5), (.v 6), (.v 7), (.v 8), (.v 9), (.v 10), (.v 11), (.v 12), (.v 13), (.v 14), (.v 15), (.v 16), (.v 17), (.v 18), (.v 19), (.v 20), (.v 21), (.v 22), (.v 23), (.v 24)] 50 1)
 (.item (.bind 42 [] 51 1)
 (.item (.pre (.kb true) 25 [(.v 3), (.v 4), (.v 5), (.v 6), (.v 7), (.v 8), (.v 9), (.v 10), (.v 11), (.v 12), (.v 13), (.v 14), (.v 15), (.v 16), (.v 17), (.v 18), (.v 19), (.v 20), (.v 21), (.v 22), (.v 23), (.v 24), (.v 26), (.v 27), (.v 28), (.v 29), (.v 30), (.v 31), (.v 32), (.v 33), (.v 34), (.v 35), (.v 36), (.v 37), (.v 38), (.v 39), (.v 40), (.v 41), (.v 42), (.v 43), (.v 44), (.v 45), (.v 46), (.v 47)])
 (.item (.pre (.op2 .and (.op2 .and (.v 49) (.op2 .eq (.v 25) (.v 48))) (.op1 .not (.op1 .not (.op2 .eq (.v 25) (.ki (0)))))) 41 [(.v 3), (.v 4), (.v 5), (.v 6), (.v 7), (.v 8), (.v 9), (.v 10), (.v 11), (.v 12), (.v 13), (.v 14), (.v 15), (.v 16), (.v 17), (.v 18), (.v 19), (.v 20), (.v 21), (.v 22), (.v 23), (.v 24)])
 (.item (.pre (.op2 .and (.op2 .and (.v 49) (.op2 .eq (.v 25) (.v 48))) (.op2 .or (.op1 .not (.op2 .eq (.v 25) (.ki (0)))) (.op2 .eq (.v 50) (.ki (0))))) 42 [])
 (.leaf [((.base .bool), (.op2 .and (.op2 .and (.op2 .and (.v 49) (.op2 .eq (.v 25) (.v 48))) (.op2 .or (.op1 .not (.op2 .eq (.v 25) (.ki (0)))) (.op2 .eq (.v 50) (.ki (0))))) (.v 51)))])))))))))))
theorem c10 : compile Go.Proofs.Try.prog [s25, s39, s40, s41, s42] Go.Proofs.Try.f10 s10.params s10.results = some t10 := by kernel_rfl
def L10 : List (Nat × (List LV → List LV)) := [(25, F25), (39, F39), (40, F40), (41, F41), (42, F42)]
def M10 : List (Nat × (List LV → Prop)) := [(25, R25), (41, R41)]
theorem h10 : ∀ sg, sg ∈ [s25, s39, s40, s41, s42] → ConOk Go.Proofs.Try.prog (ap L10) (apR M10) sg := by
  intro sg h
  simp only [List.mem_cons, List.not_mem_nil, or_false] at h
  rcases h with rfl | rfl | rfl | rfl | rfl
  · exact k25.to rfl rfl
  · exact k39.to rfl rfl
  · exact k40.to rfl rfl
  · exact k41.to rfl rfl
  · exact k42.to rfl rfl
def F10 (_ : List LV) : List LV := [.b true]
def R10 (ls : List LV) : Prop := PFit s10.params ls
theorem fresh_ok (ls : List LV) : (outOf (F39 ls) 22).I = 0 → CcOk (outOf (F39 ls)) := by
  have bad : ∀ r : List LV, outOf (z22 ++ [.i 2]) 22 = .i 2 := fun _ => by rw [out22zb _ (by omega)]; rfl
  intro h
  unfold F39 at *
  by_cases h1 : (outOf ls 0).I = 1
  · rw [if_pos h1] at *
    unfold FN78 at *
    split at h
    · rename_i hb
      rw [if_pos hb]
      obtain ⟨⟨b1, b2⟩, b3, b4⟩ := hb
      have hp := prodI (a := (outOf [outOf ls 1, outOf ls 2] 0).I) (b := (outOf [outOf ls 1, outOf ls 2] 1).I) (A := 65000) (B := 100) (by omega) (by omega) b2 b4
      refine .inl ?_
      have k := Int.mul_le_mul_of_nonneg_left b3 (show 0 ≤ (outOf [outOf ls 1, outOf ls 2] 0).I by omega)
      rw [Int.mul_one] at k
      generalize (outOf [outOf ls 1, outOf ls 2] 0).I = m at *
      generalize (outOf [outOf ls 1, outOf ls 2] 1).I = n at *
      unfold RenoOk Common NoCubic NoBbr
      simp only [out22, newG, zeroF, Nat.reduceEqDiff, if_true, if_false, setE_lt, setE_hit, Nat.reduceLT, Nat.reduceLeDiff, Nat.reduceAdd, Nat.reduceSub, LV.Ii, LV.Bb, LV.Ll, List.length_nil, true_and, and_true]
      generalize m * n = mn at *
      omega
    · rw [bad []] at h; simp at h
  rw [if_neg h1] at *
  by_cases h2 : (outOf ls 0).I = 2
  · rw [if_pos h2] at *
    unfold FN31 at *
    split at h
    · rename_i hb
      rw [if_pos hb]
      obtain ⟨⟨b1, b2⟩, b3, b4⟩ := hb
      have hp := prodI (a := (outOf [outOf ls 1, outOf ls 2] 0).I) (b := (outOf [outOf ls 1, outOf ls 2] 1).I) (A := 65000) (B := 100) (by omega) (by omega) b2 b4
      refine .inr (.inl ?_)
      have k := Int.mul_le_mul_of_nonneg_left b3 (show 0 ≤ (outOf [outOf ls 1, outOf ls 2] 0).I by omega)
      rw [Int.mul_one] at k
      generalize (outOf [outOf ls 1, outOf ls 2] 0).I = m at *
      generalize (outOf [outOf ls 1, outOf ls 2] 1).I = n at *
      unfold CubicOk Common NoBbr
      simp only [out22, newC, zeroF, Nat.reduceEqDiff, if_true, if_false, setE_lt, setE_hit, Nat.reduceLT, Nat.reduceLeDiff, Nat.reduceAdd, Nat.reduceSub, LV.Ii, LV.Bb, LV.Ll, List.length_nil, true_and, and_true]
      generalize m * n = mn at *
      omega
    · rw [bad []] at h; simp at h
  rw [if_neg h2] at *
  by_cases h3 : (outOf ls 0).I = 3
  · rw [if_pos h3] at *
    unfold FN51 at *
    split at h
    · rename_i hb
      rw [if_pos hb]
      obtain ⟨⟨b1, b2⟩, b3, b4⟩ := hb
      have hp := prodI (a := (outOf [outOf ls 1, outOf ls 2] 0).I) (b := (outOf [outOf ls 1, outOf ls 2] 1).I) (A := 65000) (B := 100) (by omega) (by omega) b2 b4
      refine .inr (.inr ?_)
      have k := Int.mul_le_mul_of_nonneg_left b3 (show 0 ≤ (outOf [outOf ls 1, outOf ls 2] 0).I by omega)
      rw [Int.mul_one] at k
      generalize (outOf [outOf ls 1, outOf ls 2] 0).I = m at *
      generalize (outOf [outOf ls 1, outOf ls 2] 1).I = n at *
      have e : outOf (l22 (newG 3 1 m n) ++ [.i 0]) 11 = .l [] := out22 _ _ (by omega)
      have eF : FOk (outOf (l22 (newG 3 1 m n) ++ [.i 0]) 11).L true := by rw [e]; intro i hi; simp at hi
      have eE : EOk (outOf (l22 (newG 3 1 m n) ++ [.i 0]) 11).L (outOf (l22 (newG 3 1 m n) ++ [.i 0]) 14).I := by rw [e]; intro i hi; simp at hi
      refine ⟨?_, ?_, ?_, eF, eE⟩
      · unfold BbrPlain
        simp only [out22, newG, zeroF, Nat.reduceEqDiff, if_true, if_false, setE_lt, setE_hit, Nat.reduceLT, Nat.reduceLeDiff, Nat.reduceAdd, Nat.reduceSub, LV.Ii, LV.Bb, LV.Ll, true_and, and_true]
        generalize m * n = mn at *
        omega
      · unfold NoCubic
        simp only [out22, newG, zeroF, Nat.reduceEqDiff, if_true, if_false, setE_lt, setE_hit, Nat.reduceLT, Nat.reduceLeDiff, Nat.reduceAdd, Nat.reduceSub, LV.Ii, LV.Bb, LV.Ll, true_and, and_true]
      · unfold BbrNums TimeI SizeI
        simp only [out22, newG, zeroF, Nat.reduceEqDiff, if_true, if_false, setE_lt, setE_hit, Nat.reduceLT, Nat.reduceLeDiff, Nat.reduceAdd, Nat.reduceSub, LV.Ii, LV.Bb, LV.Ll, true_and, and_true]
        omega
    · rw [bad []] at h; simp at h
  rw [if_neg h3] at *
  rw [bad []] at h; simp at h
set_option maxRecDepth 100000 in
theorem k10 : Kon Go.Proofs.Try.prog s10 F10 R10 := by
  refine con_ok h10 (by kernel_rfl) Go.Proofs.Try.func10 (by kernel_rfl) c10 ?_
  intro ls _ hr
  have hf := fit_flat hr
  simp only [t10, Tr.den, L10, M10, ap, apR, if_true, Nat.reduceEqDiff, if_false, List.map_cons, List.map_nil, E.den, O1.ev, ev_add, ev_sub, ev_mul, ev_quo, ev_rem, ev_mx, ev_mn, ev_shl, ev_shr, ev_bit, ev_lt, ev_le, ev_eq, ev_and, ev_or, ev_eqb, ev_cat, ev_rcons, ev_rd, SameL, Col.same, F40]
  simp only [setE_lt, setE_hit, Nat.reduceLT, Nat.reduceLeDiff, Nat.reduceAdd, Nat.reduceSub]
  simp only [E41]
  simp only [LV.Ii, LV.Bb, LV.Ll]
  have h1 : Short (F39 [outOf ls 0, outOf ls 1, outOf ls 2]) := short_F39 _
  have h2 := fresh_ok [outOf ls 0, outOf ls 1, outOf ls 2]
  generalize F39 [outOf ls 0, outOf ls 1, outOf ls 2] = A1 at *
  simp only [ccok22 (outOf A1)]
  refine ⟨fun _ => trivial, fun _ => trivial, fun _ => R25_same (outOf A1) h1, fun _ => R53_ok (outOf A1) h1, fun _ => trivial, ?_, trivial⟩
  simp only [F25, F42, F10, outOf_z, LV.Bb]
  simp only [Bool.or_eq_true, Bool.and_eq_true, Bool.not_eq_true', tf_t, tf_f, Bool.or_eq_false_iff, Bool.and_eq_false_iff]
  refine ⟨⟨⟨trivial, trivial⟩, ?_⟩, trivial⟩
  by_cases he : (outOf A1 22).I = 0
  · exact .inr (if_pos (h2 he))
  · exact .inl he
end Go.Proofs.Ythhnnfmfeofknaa.Sy
namespace Go.Proofs.Ythhnnfmfeofknaa
open Go.ChangeShapes Go.WideShapes Go.ChangeAt Go.RowKit
theorem ccBegins_own : ownKnob Try.prog.godebug = none := by kernel_rfl
theorem ccBegins_laidOut : laidOutB Try.prog = true := by kernel_rfl
set_option maxRecDepth 100000 in
theorem ccBegins_lifted (os : Os) (started : os.Started) (H : Type) (enc : TypeId × Value → H) :
    ReturnsInHanded {} Try.checked os 10 .any (Rows.ccBeginsSpec.pre6 enc Try.prog Try.f10 Rows.ccBeginsRow.domain false) (Rows.ccBeginsSpec.post enc Try.prog Try.f10 false true false false) := by
  refine returnsInHanded_of_change (C := Try.checked) ccBegins_own started (by kernel_rfl) Try.func10
    (ChangeSpec.witness6 (enc := enc) (C := Try.checked) false ⟨#[], #[.int .i64 0, .int .i64 0, .int .i64 0], []⟩ 8 (by kernel_rfl) (by kernel_rfl) (by kernel_rfl) (by kernel_rfl)) ?_
  intro W base args ds gs before hval0 hW hcnd _
  refine Sy.law_calls (b := 4) (s := Rows.ccBeginsSpec) (Sy.k10.to (Φ := fun _ => Sy.F10) (Pr := fun _ => Sy.R10) rfl rfl) ccBegins_laidOut (by kernel_rfl) (by kernel_rfl) (by kernel_rfl) rfl ?_ (fun ls hf => ⟨hf, rfl⟩) hval0 hW
  intro ds hd
  have hd : ds.length = 3 := hd
  rcases ds with _ | ⟨d0, ds⟩
  · simp at hd
  rcases ds with _ | ⟨d1, ds⟩
  · simp at hd
  rcases ds with _ | ⟨d2, ds⟩
  · simp at hd
  rcases ds with _ | ⟨d, ds⟩
  · rfl
  · simp at hd
theorem ccBegins_holds : Rows.CcBeginsSaid :=
  OpenClaim.holds_of_wide 10 Try.f10 rfl rfl rfl rfl rfl rfl rfl ⟨rfl, rfl, rfl, rfl, rfl⟩ rfl rfl rfl rfl rfl (by kernel_rfl) Try.func10 (by kernel_rfl)
    (of_decide_eq_true (by kernel_rfl)) (by unfold Func.isWrapper; first | (rw [if_pos (by decide +kernel)]; kernel_rfl) | (rw [if_neg (by decide +kernel)]; exact ⟨rfl, rfl⟩))
    (fun os started H enc _ => ccBegins_lifted os started H enc)
#print axioms ccBegins_holds
end Go.Proofs.Ythhnnfmfeofknaa

