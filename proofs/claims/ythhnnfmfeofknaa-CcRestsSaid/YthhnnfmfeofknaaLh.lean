/-
  CcRests: for every controller, right or not, and all numbers: what a time without sending makes of it, a limit, and how fast it paces, are what the reference says; no condition.
-/
import Derived.Test.YthhnnfmfeofknaaCs
import Derived.Test.YthhnnfmfeofknaaRows
namespace Go.Proofs.Ythhnnfmfeofknaa.Sy
open Go Go.RowKit
set_option linter.unusedSimpArgs false
set_option linter.unusedVariables false

/-! tideway/tidewaylaw19.CcRests -/
def s12 : Sig := ⟨12, 12, [.agg [I64, I64, I64, I64, I64, I64, I64, I64, I64, I64, I64, (.sl [(.int .i64), (.int .i64)]), I64, I64, I64, I64, I64, I64, I64, I64, I64, I64], .col I64, .col I64, .col I64], [.col (.base .bool)]⟩
def t12 : Tr (List (Col × E)) :=
 (.item (.bind 43 [(.v 0), (.v 1), (.v 2), (.v 3), (.v 4), (.v 5), (.v 6), (.v 7), (.v 8), (.v 9), (.v 10), (.v 11), (.v 12), (.v 13), (.v 14), (.v 15), (.v 16), (.v 17), (.v 18), (.v 19), (.v 20), (.v 21), (.v 22), (.v 23), (.v 24)] 25 23)
 (.item (.pre (.kb true) 43 [(.v 0), (.v 1), (.v 2), (.v 3), (.v 4), (.v 5), (.v 6), (.v 7), (.v 8), (.v 9), (.v 10), (.v 11), (.v 12), (.v 13), (.v 14), (.v 15), (.v 16), (.v 17), (.v 18), (.v 19), (.v 20), (.v 21), (.v 22), (.v 23), (.v 24)])
 (.item (.bind 44 [(.v 0), (.v 1), (.v 2), (.v 3), (.v 4), (.v 5), (.v 6), (.v 7), (.v 8), (.v 9), (.v 10), (.v 11), (.v 12), (.v 13), (.v 14), (.v 15), (.v 16), (.v 17), (.v 18), (.v 19), (.v 20), (.v 21), (.v 22), (.v 23), (.v 24)] 48 23)
 (.item (.pre (.kb true) 44 [(.v 0), (.v 1), (.v 2), (.v 3), (.v 4), (.v 5), (.v 6), (.v 7), (.v 8), (.v 9), (.v 10), (.v 11), (.v 12), (.v 13), (.v 14), (.v 15), (.v 16), (.v 17), (.v 18), (.v 19), (.v 20), (.v 21), (.v 22), (.v 23), (.v 24)])
 (.item (.bind 45 [(.v 0), (.v 1), (.v 2), (.v 3), (.v 4), (.v 5), (.v 6), (.v 7), (.v 8), (.v 9), (.v 10), (.v 11), (.v 12), (.v 13), (.v 14), (.v 15), (.v 16), (.v 17), (.v 18), (.v 19), (.v 20), (.v 21), (.v 24)] 71 23)
 (.item (.pre (.kb true) 45 [(.v 0), (.v 1), (.v 2), (.v 3), (.v 4), (.v 5), (.v 6), (.v 7), (.v 8), (.v 9), (.v 10), (.v 11), (.v 12), (.v 13), (.v 14), (.v 15), (.v 16), (.v 17), (.v 18), (.v 19), (.v 20), (.v 21), (.v 24)])
 (.item (.bind 46 [(.v 0), (.v 1), (.v 2), (.v 3), (.v 4), (.v 5), (.v 6), (.v 7), (.v 8), (.v 9), (.v 10), (.v 11), (.v 12), (.v 13), (.v 14), (.v 15), (.v 16), (.v 17), (.v 18), (.v 19), (.v 20), (.v 21), (.v 24)] 94 23)
 (.item (.pre (.kb true) 46 [(.v 0), (.v 1), (.v 2), (.v 3), (.v 4), (.v 5), (.v 6), (.v 7), (.v 8), (.v 9), (.v 10), (.v 11), (.v 12), (.v 13), (.v 14), (.v 15), (.v 16), (.v 17), (.v 18), (.v 19), (.v 20), (.v 21), (.v 24)])
 (.item (.bind 25 [(.v 25), (.v 26), (.v 27), (.v 28), (.v 29), (.v 30), (.v 31), (.v 32), (.v 33), (.v 34), (.v 35), (.v 36), (.v 37), (.v 38), (.v 39), (.v 40), (.v 41), (.v 42), (.v 43), (.v 44), (.v 45), (.v 46), (.v 48), (.v 49), (.v 50), (.v 51), (.v 52), (.v 53), (.v 54), (.v 55), (.v 56), (.v 57), (.v 58), (.v 59), (.v 60), (.v 61), (.v 62), (.v 63), (.v 64), (.v 65), (.v 66), (.v 67), (.v 68), (.v 69)] 117 1)
 (.item (.bind 25 [(.v 71), (.v 72), (.v 73), (.v 74), (.v 75), (.v 76), (.v 77), (.v 78), (.v 79), (.v 80), (.v 81), (.v 82), (.v 83), (.v 84), (.v 85), (.v 86), (.v 87), (.v 88), (.v 89), (.v 90), (.v 91), (.v 92), (.v 94), (.v 95), (.v 96), (.v 97), (.v 98), (.v 99), (.v 100), (.v 101), (.v 102), (.v 103), (.v 104), (.v 105), (.v 106), (.v 107), (.v 108), (.v 109), (.v 110), (.v 111), (.v 112), (.v 113), (.v 114), (.v 115)] 118 1)
 (.item (.bind 47 [(.v 0), (.v 1), (.v 2), (.v 3), (.v 4), (.v 5), (.v 6), (.v 7), (.v 8), (.v 9), (.v 10), (.v 11), (.v 12), (.v 13), (.v 14), (.v 15), (.v 16), (.v 17), (.v 18), (.v 19), (.v 20), (.v 21), (.v 22), (.v 24)] 119 1)
 (.item (.bind 48 [(.v 0), (.v 1), (.v 2), (.v 3), (.v 4), (.v 5), (.v 6), (.v 7), (.v 8), (.v 9), (.v 10), (.v 11), (.v 12), (.v 13), (.v 14), (.v 15), (.v 16), (.v 17), (.v 18), (.v 19), (.v 20), (.v 21), (.v 22), (.v 24)] 120 1)
 (.item (.bind 42 [] 121 1)
 (.item (.pre (.kb true) 25 [(.v 25), (.v 26), (.v 27), (.v 28), (.v 29), (.v 30), (.v 31), (.v 32), (.v 33), (.v 34), (.v 35), (.v 36), (.v 37), (.v 38), (.v 39), (.v 40), (.v 41), (.v 42), (.v 43), (.v 44), (.v 45), (.v 46), (.v 48), (.v 49), (.v 50), (.v 51), (.v 52), (.v 53), (.v 54), (.v 55), (.v 56), (.v 57), (.v 58), (.v 59), (.v 60), (.v 61), (.v 62), (.v 63), (.v 64), (.v 65), (.v 66), (.v 67), (.v 68), (.v 69)])
 (.item (.pre (.op2 .and (.v 117) (.op2 .eq (.v 47) (.v 70))) 25 [(.v 71), (.v 72), (.v 73), (.v 74), (.v 75), (.v 76), (.v 77), (.v 78), (.v 79), (.v 80), (.v 81), (.v 82), (.v 83), (.v 84), (.v 85), (.v 86), (.v 87), (.v 88), (.v 89), (.v 90), (.v 91), (.v 92), (.v 94), (.v 95), (.v 96), (.v 97), (.v 98), (.v 99), (.v 100), (.v 101), (.v 102), (.v 103), (.v 104), (.v 105), (.v 106), (.v 107), (.v 108), (.v 109), (.v 110), (.v 111), (.v 112), (.v 113), (.v 114), (.v 115)])
 (.item (.pre (.op2 .and (.op2 .and (.op2 .and (.v 117) (.op2 .eq (.v 47) (.v 70))) (.v 118)) (.op2 .eq (.v 93) (.v 116))) 47 [(.v 0), (.v 1), (.v 2), (.v 3), (.v 4), (.v 5), (.v 6), (.v 7), (.v 8), (.v 9), (.v 10), (.v 11), (.v 12), (.v 13), (.v 14), (.v 15), (.v 16), (.v 17), (.v 18), (.v 19), (.v 20), (.v 21), (.v 22), (.v 24)])
 (.item (.pre (.op2 .and (.op2 .and (.op2 .and (.v 117) (.op2 .eq (.v 47) (.v 70))) (.v 118)) (.op2 .eq (.v 93) (.v 116))) 48 [(.v 0), (.v 1), (.v 2), (.v 3), (.v 4), (.v 5), (.v 6), (.v 7), (.v 8), (.v 9), (.v 10), (.v 11), (.v 12), (.v 13), (.v 14), (.v 15), (.v 16), (.v 17), (.v 18), (.v 19), (.v 20), (.v 21), (.v 22), (.v 24)])
 (.item (.pre (.op2 .and (.op2 .and (.op2 .and (.op2 .and (.v 117) (.op2 .eq (.v 47) (.v 70))) (.v 118)) (.op2 .eq (.v 93) (.v 116))) (.op2 .eq (.v 119) (.v 120))) 42 [])
 (.leaf [((.base .bool), (.op2 .and (.op2 .and (.op2 .and (.op2 .and (.op2 .and (.v 117) (.op2 .eq (.v 47) (.v 70))) (.v 118)) (.op2 .eq (.v 93) (.v 116))) (.op2 .eq (.v 119) (.v 120))) (.v 121)))])))))))))))))))))))
theorem c12 : compile Go.Proofs.Try.prog [s25, s42, s43, s44, s45, s46, s47, s48] Go.Proofs.Try.f12 s12.params s12.results = some t12 := by kernel_rfl
def L12 : List (Nat × (List LV → List LV)) := [(25, F25), (42, F42), (43, F43), (44, F44), (45, F45), (46, F46), (47, F47), (48, F48)]
def M12 : List (Nat × (List LV → Prop)) := [(25, R25), (43, R43), (44, R44), (45, R45), (46, R46), (47, R47), (48, R48)]
theorem h12 : ∀ sg, sg ∈ [s25, s42, s43, s44, s45, s46, s47, s48] → ConOk Go.Proofs.Try.prog (ap L12) (apR M12) sg := by
  intro sg h
  simp only [List.mem_cons, List.not_mem_nil, or_false] at h
  rcases h with rfl | rfl | rfl | rfl | rfl | rfl | rfl | rfl
  · exact k25.to rfl rfl
  · exact k42.to rfl rfl
  · exact k43.to rfl rfl
  · exact k44.to rfl rfl
  · exact k45.to rfl rfl
  · exact k46.to rfl rfl
  · exact k47.to rfl rfl
  · exact k48.to rfl rfl
def F12 (_ : List LV) : List LV := [.b true]
def R12 (ls : List LV) : Prop := PFit s12.params ls
set_option maxRecDepth 100000 in
theorem k12 : Kon Go.Proofs.Try.prog s12 F12 R12 := by
  refine con_ok h12 (by kernel_rfl) Go.Proofs.Try.func12 (by kernel_rfl) c12 ?_
  intro ls _ hr
  have hf := fit_flat hr
  have hs : Short ls := fit_sl hf (i := 11) rfl
  simp only [t12, Tr.den, L12, M12, ap, apR, if_true, Nat.reduceEqDiff, if_false, List.map_cons, List.map_nil, E.den, O1.ev, ev_add, ev_sub, ev_mul, ev_quo, ev_rem, ev_mx, ev_mn, ev_shl, ev_shr, ev_bit, ev_lt, ev_le, ev_eq, ev_and, ev_or, ev_eqb, ev_cat, ev_rcons, ev_rd, SameL, Col.same, F44, F46, F48, R44, R46, R48]
  simp only [setE_lt, setE_hit, Nat.reduceLT, Nat.reduceLeDiff, Nat.reduceAdd, Nat.reduceSub]
  simp only [LV.Ii, LV.Bb, LV.Ll]
  have h1 : Short (F43 [outOf ls 0, outOf ls 1, outOf ls 2, outOf ls 3, outOf ls 4, outOf ls 5, outOf ls 6, outOf ls 7, outOf ls 8, outOf ls 9, outOf ls 10, outOf ls 11, outOf ls 12, outOf ls 13, outOf ls 14, outOf ls 15, outOf ls 16, outOf ls 17, outOf ls 18, outOf ls 19, outOf ls 20, outOf ls 21, outOf ls 22, outOf ls 23, outOf ls 24]) := short_F43 hs
  have h2 : Short (F45 [outOf ls 0, outOf ls 1, outOf ls 2, outOf ls 3, outOf ls 4, outOf ls 5, outOf ls 6, outOf ls 7, outOf ls 8, outOf ls 9, outOf ls 10, outOf ls 11, outOf ls 12, outOf ls 13, outOf ls 14, outOf ls 15, outOf ls 16, outOf ls 17, outOf ls 18, outOf ls 19, outOf ls 20, outOf ls 21, outOf ls 24]) := short_F45 hs
  generalize F43 [outOf ls 0, outOf ls 1, outOf ls 2, outOf ls 3, outOf ls 4, outOf ls 5, outOf ls 6, outOf ls 7, outOf ls 8, outOf ls 9, outOf ls 10, outOf ls 11, outOf ls 12, outOf ls 13, outOf ls 14, outOf ls 15, outOf ls 16, outOf ls 17, outOf ls 18, outOf ls 19, outOf ls 20, outOf ls 21, outOf ls 22, outOf ls 23, outOf ls 24] = A1 at *
  generalize F45 [outOf ls 0, outOf ls 1, outOf ls 2, outOf ls 3, outOf ls 4, outOf ls 5, outOf ls 6, outOf ls 7, outOf ls 8, outOf ls 9, outOf ls 10, outOf ls 11, outOf ls 12, outOf ls 13, outOf ls 14, outOf ls 15, outOf ls 16, outOf ls 17, outOf ls 18, outOf ls 19, outOf ls 20, outOf ls 21, outOf ls 24] = A2 at *
  refine ⟨fun _ => hs, fun _ => hs, fun _ => hs, fun _ => hs, fun _ => R25_same (outOf A1) h1, fun _ => R25_same (outOf A2) h2, fun _ => hs, fun _ => hs, fun _ => trivial, ?_, trivial⟩
  simp only [F25, F42, F12, outOf_z, LV.Bb]
  simp only [Bool.or_eq_true, Bool.and_eq_true, Bool.not_eq_true', tf_t, tf_f, Bool.or_eq_false_iff, Bool.and_eq_false_iff, and_self]
end Go.Proofs.Ythhnnfmfeofknaa.Sy
namespace Go.Proofs.Ythhnnfmfeofknaa
open Go.ChangeShapes Go.WideShapes Go.ChangeAt Go.RowKit
theorem ccRests_own : ownKnob Try.prog.godebug = none := by kernel_rfl
theorem ccRests_laidOut : laidOutB Try.prog = true := by kernel_rfl
set_option maxRecDepth 100000 in
theorem ccRests_lifted (os : Os) (started : os.Started) (H : Type) (enc : TypeId × Value → H) :
    ReturnsInHanded {} Try.checked os 12 .any (Rows.ccRestsSpec.pre6 enc Try.prog Try.f12 Rows.ccRestsRow.domain false) (Rows.ccRestsSpec.post enc Try.prog Try.f12 false true false false) := by
  refine returnsInHanded_of_change (C := Try.checked) ccRests_own started (by kernel_rfl) Try.func12
    (ChangeSpec.witness6 (enc := enc) (C := Try.checked) false ⟨#[], #[.agg #[.int .i64 0, .int .i64 0, .int .i64 0, .int .i64 0, .int .i64 0, .int .i64 0, .int .i64 0, .int .i64 0, .int .i64 0, .int .i64 0, .int .i64 0, .slice none 0 0, .int .i64 0, .int .i64 0, .int .i64 0, .int .i64 0, .int .i64 0, .int .i64 0, .int .i64 0, .int .i64 0, .int .i64 0, .int .i64 0], .int .i64 0, .int .i64 0, .int .i64 0], []⟩ 8 (by kernel_rfl) (by kernel_rfl) (by kernel_rfl) (by kernel_rfl)) ?_
  intro W base args ds gs before hval0 hW hcnd _
  refine Sy.law_calls (b := 4) (s := Rows.ccRestsSpec) (Sy.k12.to (Φ := fun _ => Sy.F12) (Pr := fun _ => Sy.R12) rfl rfl) ccRests_laidOut (by kernel_rfl) (by kernel_rfl) (by kernel_rfl) rfl ?_ (fun ls hf => ⟨hf, rfl⟩) hval0 hW
  intro ds hd
  have hd : ds.length = 4 := hd
  rcases ds with _ | ⟨d0, ds⟩
  · simp at hd
  rcases ds with _ | ⟨d1, ds⟩
  · simp at hd
  rcases ds with _ | ⟨d2, ds⟩
  · simp at hd
  rcases ds with _ | ⟨d3, ds⟩
  · simp at hd
  rcases ds with _ | ⟨d, ds⟩
  · rfl
  · simp at hd
theorem ccRests_holds : Rows.CcRestsSaid :=
  OpenClaim.holds_of_wide 12 Try.f12 rfl rfl rfl rfl rfl rfl rfl ⟨rfl, rfl, rfl, rfl, rfl⟩ rfl rfl rfl rfl rfl (by kernel_rfl) Try.func12 (by kernel_rfl)
    (of_decide_eq_true (by kernel_rfl)) (by unfold Func.isWrapper; first | (rw [if_pos (by decide +kernel)]; kernel_rfl) | (rw [if_neg (by decide +kernel)]; exact ⟨rfl, rfl⟩))
    (fun os started H enc _ => ccRests_lifted os started H enc)
#print axioms ccRests_holds
end Go.Proofs.Ythhnnfmfeofknaa

