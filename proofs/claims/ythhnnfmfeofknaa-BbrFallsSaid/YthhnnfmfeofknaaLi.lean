/-
  BbrFalls: for every controller, right or not, and all numbers: what a timeout makes of it, and a fresh controller, are what the reference says, and a fresh one may be; no condition.
-/
import Derived.Test.YthhnnfmfeofknaaCy
import Derived.Test.YthhnnfmfeofknaaRows
namespace Go.Proofs.Ythhnnfmfeofknaa.Sy
open Go Go.RowKit
set_option linter.unusedSimpArgs false
set_option linter.unusedVariables false

/-! tideway/tidewaylaw18.BbrFalls -/
def s13 : Sig := ⟨13, 13, [.agg [I64, I64, I64, I64, I64, I64, I64, I64, I64, I64, I64, (.sl [(.int .i64), (.int .i64)]), I64, I64, I64, I64, I64, I64, I64, I64, I64, I64], .col I64, .col I64], [.col (.base .bool)]⟩
def t13 : Tr (List (Col × E)) :=
 (.item (.bind 49 [(.v 0), (.v 1), (.v 2), (.v 3), (.v 4), (.v 5), (.v 6), (.v 7), (.v 8), (.v 9), (.v 10), (.v 11), (.v 12), (.v 13), (.v 14), (.v 15), (.v 16), (.v 17), (.v 18), (.v 19), (.v 20), (.v 21), (.v 22)] 24 23)
 (.item (.pre (.kb true) 49 [(.v 0), (.v 1), (.v 2), (.v 3), (.v 4), (.v 5), (.v 6), (.v 7), (.v 8), (.v 9), (.v 10), (.v 11), (.v 12), (.v 13), (.v 14), (.v 15), (.v 16), (.v 17), (.v 18), (.v 19), (.v 20), (.v 21), (.v 22)])
 (.item (.bind 50 [(.v 0), (.v 1), (.v 2), (.v 3), (.v 4), (.v 5), (.v 6), (.v 7), (.v 8), (.v 9), (.v 10), (.v 11), (.v 12), (.v 13), (.v 14), (.v 15), (.v 16), (.v 17), (.v 18), (.v 19), (.v 20), (.v 21), (.v 22)] 47 23)
 (.item (.pre (.kb true) 50 [(.v 0), (.v 1), (.v 2), (.v 3), (.v 4), (.v 5), (.v 6), (.v 7), (.v 8), (.v 9), (.v 10), (.v 11), (.v 12), (.v 13), (.v 14), (.v 15), (.v 16), (.v 17), (.v 18), (.v 19), (.v 20), (.v 21), (.v 22)])
 (.item (.bind 51 [(.v 22), (.v 23)] 70 23)
 (.item (.pre (.kb true) 51 [(.v 22), (.v 23)])
 (.item (.bind 52 [(.v 22), (.v 23)] 93 23)
 (.item (.pre (.kb true) 52 [(.v 22), (.v 23)])
 (.item (.bind 25 [(.v 24), (.v 25), (.v 26), (.v 27), (.v 28), (.v 29), (.v 30), (.v 31), (.v 32), (.v 33), (.v 34), (.v 35), (.v 36), (.v 37), (.v 38), (.v 39), (.v 40), (.v 41), (.v 42), (.v 43), (.v 44), (.v 45), (.v 47), (.v 48), (.v 49), (.v 50), (.v 51), (.v 52), (.v 53), (.v 54), (.v 55), (.v 56), (.v 57), (.v 58), (.v 59), (.v 60), (.v 61), (.v 62), (.v 63), (.v 64), (.v 65), (.v 66), (.v 67), (.v 68)] 116 1)
 (.item (.bind 25 [(.v 70), (.v 71), (.v 72), (.v 73), (.v 74), (.v 75), (.v 76), (.v 77), (.v 78), (.v 79), (.v 80), (.v 81), (.v 82), (.v 83), (.v 84), (.v 85), (.v 86), (.v 87), (.v 88), (.v 89), (.v 90), (.v 91), (.v 93), (.v 94), (.v 95), (.v 96), (.v 97), (.v 98), (.v 99), (.v 100), (.v 101), (.v 102), (.v 103), (.v 104), (.v 105), (.v 106), (.v 107), (.v 108), (.v 109), (.v 110), (.v 111), (.v 112), (.v 113), (.v 114)] 117 1)
 (.item (.bind 53 [(.v 70), (.v 71), (.v 72), (.v 73), (.v 74), (.v 75), (.v 76), (.v 77), (.v 78), (.v 79), (.v 80), (.v 81), (.v 82), (.v 83), (.v 84), (.v 85), (.v 86), (.v 87), (.v 88), (.v 89), (.v 90), (.v 91)] 118 1)
 (.item (.bind 54 [] 119 1)
 (.item (.pre (.kb true) 25 [(.v 24), (.v 25), (.v 26), (.v 27), (.v 28), (.v 29), (.v 30), (.v 31), (.v 32), (.v 33), (.v 34), (.v 35), (.v 36), (.v 37), (.v 38), (.v 39), (.v 40), (.v 41), (.v 42), (.v 43), (.v 44), (.v 45), (.v 47), (.v 48), (.v 49), (.v 50), (.v 51), (.v 52), (.v 53), (.v 54), (.v 55), (.v 56), (.v 57), (.v 58), (.v 59), (.v 60), (.v 61), (.v 62), (.v 63), (.v 64), (.v 65), (.v 66), (.v 67), (.v 68)])
 (.item (.pre (.op2 .and (.v 116) (.op2 .eq (.v 46) (.v 69))) 25 [(.v 70), (.v 71), (.v 72), (.v 73), (.v 74), (.v 75), (.v 76), (.v 77), (.v 78), (.v 79), (.v 80), (.v 81), (.v 82), (.v 83), (.v 84), (.v 85), (.v 86), (.v 87), (.v 88), (.v 89), (.v 90), (.v 91), (.v 93), (.v 94), (.v 95), (.v 96), (.v 97), (.v 98), (.v 99), (.v 100), (.v 101), (.v 102), (.v 103), (.v 104), (.v 105), (.v 106), (.v 107), (.v 108), (.v 109), (.v 110), (.v 111), (.v 112), (.v 113), (.v 114)])
 (.item (.pre (.op2 .and (.op2 .and (.op2 .and (.op2 .and (.v 116) (.op2 .eq (.v 46) (.v 69))) (.v 117)) (.op2 .eq (.v 92) (.v 115))) (.op1 .not (.op1 .not (.op2 .eq (.v 92) (.ki (0)))))) 53 [(.v 70), (.v 71), (.v 72), (.v 73), (.v 74), (.v 75), (.v 76), (.v 77), (.v 78), (.v 79), (.v 80), (.v 81), (.v 82), (.v 83), (.v 84), (.v 85), (.v 86), (.v 87), (.v 88), (.v 89), (.v 90), (.v 91)])
 (.item (.pre (.op2 .and (.op2 .and (.op2 .and (.op2 .and (.v 116) (.op2 .eq (.v 46) (.v 69))) (.v 117)) (.op2 .eq (.v 92) (.v 115))) (.op2 .or (.op1 .not (.op2 .eq (.v 92) (.ki (0)))) (.op2 .eq (.v 118) (.ki (0))))) 54 [])
 (.leaf [((.base .bool), (.op2 .and (.op2 .and (.op2 .and (.op2 .and (.op2 .and (.v 116) (.op2 .eq (.v 46) (.v 69))) (.v 117)) (.op2 .eq (.v 92) (.v 115))) (.op2 .or (.op1 .not (.op2 .eq (.v 92) (.ki (0)))) (.op2 .eq (.v 118) (.ki (0))))) (.v 119)))])))))))))))))))))
theorem c13 : compile Go.Proofs.Try.prog [s25, s49, s50, s51, s52, s53, s54] Go.Proofs.Try.f13 s13.params s13.results = some t13 := by kernel_rfl
def L13 : List (Nat × (List LV → List LV)) := [(25, F25), (49, F49), (50, F50), (51, FN51), (52, FN52), (53, F53), (54, F54)]
def M13 : List (Nat × (List LV → Prop)) := [(25, R25), (49, R49), (50, R50), (53, R53)]
theorem h13 : ∀ sg, sg ∈ [s25, s49, s50, s51, s52, s53, s54] → ConOk Go.Proofs.Try.prog (ap L13) (apR M13) sg := by
  intro sg h
  simp only [List.mem_cons, List.not_mem_nil, or_false] at h
  rcases h with rfl | rfl | rfl | rfl | rfl | rfl | rfl
  · exact k25.to rfl rfl
  · exact k49.to rfl rfl
  · exact k50.to rfl rfl
  · exact kN51.to rfl rfl
  · exact kN52.to rfl rfl
  · exact k53.to rfl rfl
  · exact k54.to rfl rfl
def F13 (_ : List LV) : List LV := [.b true]
def R13 (ls : List LV) : Prop := PFit s13.params ls
set_option maxRecDepth 100000 in
theorem k13 : Kon Go.Proofs.Try.prog s13 F13 R13 := by
  refine con_ok h13 (by kernel_rfl) Go.Proofs.Try.func13 (by kernel_rfl) c13 ?_
  intro ls _ hr
  have hf := fit_flat hr
  have hs : Short ls := fit_sl hf (i := 11) rfl
  simp only [t13, Tr.den, L13, M13, ap, apR, if_true, Nat.reduceEqDiff, if_false, List.map_cons, List.map_nil, E.den, O1.ev, ev_add, ev_sub, ev_mul, ev_quo, ev_rem, ev_mx, ev_mn, ev_shl, ev_shr, ev_bit, ev_lt, ev_le, ev_eq, ev_and, ev_or, ev_eqb, ev_cat, ev_rcons, ev_rd, SameL, Col.same, F50, R50, FN52]
  simp only [setE_lt, setE_hit, Nat.reduceLT, Nat.reduceLeDiff, Nat.reduceAdd, Nat.reduceSub]
  simp only [E53]
  simp only [LV.Ii, LV.Bb, LV.Ll]
  have h1 : Short (F49 [outOf ls 0, outOf ls 1, outOf ls 2, outOf ls 3, outOf ls 4, outOf ls 5, outOf ls 6, outOf ls 7, outOf ls 8, outOf ls 9, outOf ls 10, outOf ls 11, outOf ls 12, outOf ls 13, outOf ls 14, outOf ls 15, outOf ls 16, outOf ls 17, outOf ls 18, outOf ls 19, outOf ls 20, outOf ls 21, outOf ls 22]) := short_F49 hs
  have h4 : Short (FN51 [outOf ls 22, outOf ls 23]) := short_FN51 _
  have h5 := (new_bbr (outOf ls 22) (outOf ls 23)).1
  generalize F49 [outOf ls 0, outOf ls 1, outOf ls 2, outOf ls 3, outOf ls 4, outOf ls 5, outOf ls 6, outOf ls 7, outOf ls 8, outOf ls 9, outOf ls 10, outOf ls 11, outOf ls 12, outOf ls 13, outOf ls 14, outOf ls 15, outOf ls 16, outOf ls 17, outOf ls 18, outOf ls 19, outOf ls 20, outOf ls 21, outOf ls 22] = A1 at *
  generalize FN51 [outOf ls 22, outOf ls 23] = A4 at *
  simp only [bok22 (outOf A4)]
  refine ⟨fun _ => hs, fun _ => hs, fun _ => trivial, fun _ => trivial, fun _ => R25_same (outOf A1) h1, fun _ => R25_same (outOf A4) h4, fun _ => R53_ok (outOf A4) h4, fun _ => trivial, ?_, trivial⟩
  simp only [F25, F54, F13, outOf_z, LV.Bb]
  simp only [Bool.or_eq_true, Bool.and_eq_true, Bool.not_eq_true', tf_t, tf_f, Bool.or_eq_false_iff, Bool.and_eq_false_iff]
  refine ⟨⟨⟨⟨⟨trivial, trivial⟩, trivial⟩, trivial⟩, ?_⟩, trivial⟩
  by_cases he : (outOf A4 22).I = 0
  · exact .inr (if_pos (h5 he))
  · exact .inl he
end Go.Proofs.Ythhnnfmfeofknaa.Sy
namespace Go.Proofs.Ythhnnfmfeofknaa
open Go.ChangeShapes Go.WideShapes Go.ChangeAt Go.RowKit
theorem bbrFalls_own : ownKnob Try.prog.godebug = none := by kernel_rfl
theorem bbrFalls_laidOut : laidOutB Try.prog = true := by kernel_rfl
set_option maxRecDepth 100000 in
theorem bbrFalls_lifted (os : Os) (started : os.Started) (H : Type) (enc : TypeId × Value → H) :
    ReturnsInHanded {} Try.checked os 13 .any (Rows.bbrFallsSpec.pre6 enc Try.prog Try.f13 Rows.bbrFallsRow.domain false) (Rows.bbrFallsSpec.post enc Try.prog Try.f13 false true false false) := by
  refine returnsInHanded_of_change (C := Try.checked) bbrFalls_own started (by kernel_rfl) Try.func13
    (ChangeSpec.witness6 (enc := enc) (C := Try.checked) false ⟨#[], #[.agg #[.int .i64 0, .int .i64 0, .int .i64 0, .int .i64 0, .int .i64 0, .int .i64 0, .int .i64 0, .int .i64 0, .int .i64 0, .int .i64 0, .int .i64 0, .slice none 0 0, .int .i64 0, .int .i64 0, .int .i64 0, .int .i64 0, .int .i64 0, .int .i64 0, .int .i64 0, .int .i64 0, .int .i64 0, .int .i64 0], .int .i64 0, .int .i64 0], []⟩ 8 (by kernel_rfl) (by kernel_rfl) (by kernel_rfl) (by kernel_rfl)) ?_
  intro W base args ds gs before hval0 hW hcnd _
  refine Sy.law_calls (b := 4) (s := Rows.bbrFallsSpec) (Sy.k13.to (Φ := fun _ => Sy.F13) (Pr := fun _ => Sy.R13) rfl rfl) bbrFalls_laidOut (by kernel_rfl) (by kernel_rfl) (by kernel_rfl) rfl ?_ (fun ls hf => ⟨hf, rfl⟩) hval0 hW
  intro ds hd
  have hd : ds.length = 3 := hd
  rcases ds with _ | ⟨d0, ds⟩
  · simp at hd
  rcases ds with _ | ⟨d1, ds⟩
  · simp at hd
  rcases ds with _ | ⟨d2, ds⟩
  · simp at hd
  rcases ds with _ | ⟨d, ds⟩
  · rfl
  · simp at hd
theorem bbrFalls_holds : Rows.BbrFallsSaid :=
  OpenClaim.holds_of_wide 13 Try.f13 rfl rfl rfl rfl rfl rfl rfl ⟨rfl, rfl, rfl, rfl, rfl⟩ rfl rfl rfl rfl rfl (by kernel_rfl) Try.func13 (by kernel_rfl)
    (of_decide_eq_true (by kernel_rfl)) (by unfold Func.isWrapper; first | (rw [if_pos (by decide +kernel)]; kernel_rfl) | (rw [if_neg (by decide +kernel)]; exact ⟨rfl, rfl⟩))
    (fun os started H enc _ => bbrFalls_lifted os started H enc)
#print axioms bbrFalls_holds
end Go.Proofs.Ythhnnfmfeofknaa

