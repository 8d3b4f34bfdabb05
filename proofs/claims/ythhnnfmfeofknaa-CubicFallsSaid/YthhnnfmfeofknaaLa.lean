/-
  CubicFalls: for every controller, right or not, and all numbers: what a loss, a timeout, a recovery's end make of it, and a fresh controller, are what the reference says; no condition.
-/
import Derived.Test.YthhnnfmfeofknaaCn
import Derived.Test.YthhnnfmfeofknaaRows
namespace Go.Proofs.Ythhnnfmfeofknaa.Sy
open Go Go.RowKit
set_option linter.unusedSimpArgs false
set_option linter.unusedVariables false

/-! tideway/tidewaylaw16.CubicFalls -/
def s9 : Sig := ⟨9, 9, [.agg [I64, I64, I64, I64, I64, I64, I64, I64, I64, I64, I64, (.sl [(.int .i64), (.int .i64)]), I64, I64, I64, I64, I64, I64, I64, I64, I64, I64], .col I64, .col I64], [.col (.base .bool)]⟩
def t9 : Tr (List (Col × E)) :=
 (.item (.bind 32 [(.v 0), (.v 1), (.v 2), (.v 3), (.v 4), (.v 5), (.v 6), (.v 7), (.v 8), (.v 9), (.v 10), (.v 11), (.v 12), (.v 13), (.v 14), (.v 15), (.v 16), (.v 17), (.v 18), (.v 19), (.v 20), (.v 21), (.v 22)] 24 23)
 (.item (.pre (.kb true) 32 [(.v 0), (.v 1), (.v 2), (.v 3), (.v 4), (.v 5), (.v 6), (.v 7), (.v 8), (.v 9), (.v 10), (.v 11), (.v 12), (.v 13), (.v 14), (.v 15), (.v 16), (.v 17), (.v 18), (.v 19), (.v 20), (.v 21), (.v 22)])
 (.item (.bind 34 [(.v 0), (.v 1), (.v 2), (.v 3), (.v 4), (.v 5), (.v 6), (.v 7), (.v 8), (.v 9), (.v 10), (.v 11), (.v 12), (.v 13), (.v 14), (.v 15), (.v 16), (.v 17), (.v 18), (.v 19), (.v 20), (.v 21), (.v 22)] 47 23)
 (.item (.pre (.kb true) 34 [(.v 0), (.v 1), (.v 2), (.v 3), (.v 4), (.v 5), (.v 6), (.v 7), (.v 8), (.v 9), (.v 10), (.v 11), (.v 12), (.v 13), (.v 14), (.v 15), (.v 16), (.v 17), (.v 18), (.v 19), (.v 20), (.v 21), (.v 22)])
 (.item (.bind 35 [(.v 0), (.v 1), (.v 2), (.v 3), (.v 4), (.v 5), (.v 6), (.v 7), (.v 8), (.v 9), (.v 10), (.v 11), (.v 12), (.v 13), (.v 14), (.v 15), (.v 16), (.v 17), (.v 18), (.v 19), (.v 20), (.v 21), (.v 22)] 70 23)
 (.item (.pre (.kb true) 35 [(.v 0), (.v 1), (.v 2), (.v 3), (.v 4), (.v 5), (.v 6), (.v 7), (.v 8), (.v 9), (.v 10), (.v 11), (.v 12), (.v 13), (.v 14), (.v 15), (.v 16), (.v 17), (.v 18), (.v 19), (.v 20), (.v 21), (.v 22)])
 (.item (.bind 36 [(.v 0), (.v 1), (.v 2), (.v 3), (.v 4), (.v 5), (.v 6), (.v 7), (.v 8), (.v 9), (.v 10), (.v 11), (.v 12), (.v 13), (.v 14), (.v 15), (.v 16), (.v 17), (.v 18), (.v 19), (.v 20), (.v 21), (.v 22)] 93 23)
 (.item (.pre (.kb true) 36 [(.v 0), (.v 1), (.v 2), (.v 3), (.v 4), (.v 5), (.v 6), (.v 7), (.v 8), (.v 9), (.v 10), (.v 11), (.v 12), (.v 13), (.v 14), (.v 15), (.v 16), (.v 17), (.v 18), (.v 19), (.v 20), (.v 21), (.v 22)])
 (.item (.bind 33 [(.v 0), (.v 1), (.v 2), (.v 3), (.v 4), (.v 5), (.v 6), (.v 7), (.v 8), (.v 9), (.v 10), (.v 11), (.v 12), (.v 13), (.v 14), (.v 15), (.v 16), (.v 17), (.v 18), (.v 19), (.v 20), (.v 21)] 116 23)
 (.item (.pre (.kb true) 33 [(.v 0), (.v 1), (.v 2), (.v 3), (.v 4), (.v 5), (.v 6), (.v 7), (.v 8), (.v 9), (.v 10), (.v 11), (.v 12), (.v 13), (.v 14), (.v 15), (.v 16), (.v 17), (.v 18), (.v 19), (.v 20), (.v 21)])
 (.item (.bind 37 [(.v 0), (.v 1), (.v 2), (.v 3), (.v 4), (.v 5), (.v 6), (.v 7), (.v 8), (.v 9), (.v 10), (.v 11), (.v 12), (.v 13), (.v 14), (.v 15), (.v 16), (.v 17), (.v 18), (.v 19), (.v 20), (.v 21)] 139 23)
 (.item (.pre (.kb true) 37 [(.v 0), (.v 1), (.v 2), (.v 3), (.v 4), (.v 5), (.v 6), (.v 7), (.v 8), (.v 9), (.v 10), (.v 11), (.v 12), (.v 13), (.v 14), (.v 15), (.v 16), (.v 17), (.v 18), (.v 19), (.v 20), (.v 21)])
 (.item (.bind 31 [(.v 22), (.v 23)] 162 23)
 (.item (.pre (.kb true) 31 [(.v 22), (.v 23)])
 (.item (.bind 38 [(.v 22), (.v 23)] 185 23)
 (.item (.pre (.kb true) 38 [(.v 22), (.v 23)])
 (.item (.bind 25 [(.v 24), (.v 25), (.v 26), (.v 27), (.v 28), (.v 29), (.v 30), (.v 31), (.v 32), (.v 33), (.v 34), (.v 35), (.v 36), (.v 37), (.v 38), (.v 39), (.v 40), (.v 41), (.v 42), (.v 43), (.v 44), (.v 45), (.v 47), (.v 48), (.v 49), (.v 50), (.v 51), (.v 52), (.v 53), (.v 54), (.v 55), (.v 56), (.v 57), (.v 58), (.v 59), (.v 60), (.v 61), (.v 62), (.v 63), (.v 64), (.v 65), (.v 66), (.v 67), (.v 68)] 208 1)
 (.item (.bind 25 [(.v 70), (.v 71), (.v 72), (.v 73), (.v 74), (.v 75), (.v 76), (.v 77), (.v 78), (.v 79), (.v 80), (.v 81), (.v 82), (.v 83), (.v 84), (.v 85), (.v 86), (.v 87), (.v 88), (.v 89), (.v 90), (.v 91), (.v 93), (.v 94), (.v 95), (.v 96), (.v 97), (.v 98), (.v 99), (.v 100), (.v 101), (.v 102), (.v 103), (.v 104), (.v 105), (.v 106), (.v 107), (.v 108), (.v 109), (.v 110), (.v 111), (.v 112), (.v 113), (.v 114)] 209 1)
 (.item (.bind 25 [(.v 116), (.v 117), (.v 118), (.v 119), (.v 120), (.v 121), (.v 122), (.v 123), (.v 124), (.v 125), (.v 126), (.v 127), (.v 128), (.v 129), (.v 130), (.v 131), (.v 132), (.v 133), (.v 134), (.v 135), (.v 136), (.v 137), (.v 139), (.v 140), (.v 141), (.v 142), (.v 143), (.v 144), (.v 145), (.v 146), (.v 147), (.v 148), (.v 149), (.v 150), (.v 151), (.v 152), (.v 153), (.v 154), (.v 155), (.v 156), (.v 157), (.v 158), (.v 159), (.v 160)] 210 1)
 (.item (.bind 25 [(.v 162), (.v 163), (.v 164), (.v 165), (.v 166), (.v 167), (.v 168), (.v 169), (.v 170), (.v 171), (.v 172), (.v 173), (.v 174), (.v 175), (.v 176), (.v 177), (.v 178), (.v 179), (.v 180), (.v 181), (.v 182), (.v 183), (.v 185), (.v 186), (.v 187), (.v 188), (.v 189), (.v 190), (.v 191), (.v 192), (.v 193), (.v 194), (.v 195), (.v 196), (.v 197), (.v 198), (.v 199), (.v 200), (.v 201), (.v 202), (.v 203), (.v 204), (.v 205), (.v 206)] 211 1)
 (.item (.bind 30 [] 212 1)
 (.item (.pre (.kb true) 25 [(.v 24), (.v 25), (.v 26), (.v 27), (.v 28), (.v 29), (.v 30), (.v 31), (.v 32), (.v 33), (.v 34), (.v 35), (.v 36), (.v 37), (.v 38), (.v 39), (.v 40), (.v 41), (.v 42), (.v 43), (.v 44), (.v 45), (.v 47), (.v 48), (.v 49), (.v 50), (.v 51), (.v 52), (.v 53), (.v 54), (.v 55), (.v 56), (.v 57), (.v 58), (.v 59), (.v 60), (.v 61), (.v 62), (.v 63), (.v 64), (.v 65), (.v 66), (.v 67), (.v 68)])
 (.item (.pre (.op2 .and (.v 208) (.op2 .eq (.v 46) (.v 69))) 25 [(.v 70), (.v 71), (.v 72), (.v 73), (.v 74), (.v 75), (.v 76), (.v 77), (.v 78), (.v 79), (.v 80), (.v 81), (.v 82), (.v 83), (.v 84), (.v 85), (.v 86), (.v 87), (.v 88), (.v 89), (.v 90), (.v 91), (.v 93), (.v 94), (.v 95), (.v 96), (.v 97), (.v 98), (.v 99), (.v 100), (.v 101), (.v 102), (.v 103), (.v 104), (.v 105), (.v 106), (.v 107), (.v 108), (.v 109), (.v 110), (.v 111), (.v 112), (.v 113), (.v 114)])
 (.item (.pre (.op2 .and (.op2 .and (.op2 .and (.v 208) (.op2 .eq (.v 46) (.v 69))) (.v 209)) (.op2 .eq (.v 92) (.v 115))) 25 [(.v 116), (.v 117), (.v 118), (.v 119), (.v 120), (.v 121), (.v 122), (.v 123), (.v 124), (.v 125), (.v 126), (.v 127), (.v 128), (.v 129), (.v 130), (.v 131), (.v 132), (.v 133), (.v 134), (.v 135), (.v 136), (.v 137), (.v 139), (.v 140), (.v 141), (.v 142), (.v 143), (.v 144), (.v 145), (.v 146), (.v 147), (.v 148), (.v 149), (.v 150), (.v 151), (.v 152), (.v 153), (.v 154), (.v 155), (.v 156), (.v 157), (.v 158), (.v 159), (.v 160)])
 (.item (.pre (.op2 .and (.op2 .and (.op2 .and (.op2 .and (.op2 .and (.v 208) (.op2 .eq (.v 46) (.v 69))) (.v 209)) (.op2 .eq (.v 92) (.v 115))) (.v 210)) (.op2 .eq (.v 138) (.v 161))) 25 [(.v 162), (.v 163), (.v 164), (.v 165), (.v 166), (.v 167), (.v 168), (.v 169), (.v 170), (.v 171), (.v 172), (.v 173), (.v 174), (.v 175), (.v 176), (.v 177), (.v 178), (.v 179), (.v 180), (.v 181), (.v 182), (.v 183), (.v 185), (.v 186), (.v 187), (.v 188), (.v 189), (.v 190), (.v 191), (.v 192), (.v 193), (.v 194), (.v 195), (.v 196), (.v 197), (.v 198), (.v 199), (.v 200), (.v 201), (.v 202), (.v 203), (.v 204), (.v 205), (.v 206)])
 (.item (.pre (.op2 .and (.op2 .and (.op2 .and (.op2 .and (.op2 .and (.op2 .and (.op2 .and (.v 208) (.op2 .eq (.v 46) (.v 69))) (.v 209)) (.op2 .eq (.v 92) (.v 115))) (.v 210)) (.op2 .eq (.v 138) (.v 161))) (.v 211)) (.op2 .eq (.v 184) (.v 207))) 30 [])
 (.leaf [((.base .bool), (.op2 .and (.op2 .and (.op2 .and (.op2 .and (.op2 .and (.op2 .and (.op2 .and (.op2 .and (.v 208) (.op2 .eq (.v 46) (.v 69))) (.v 209)) (.op2 .eq (.v 92) (.v 115))) (.v 210)) (.op2 .eq (.v 138) (.v 161))) (.v 211)) (.op2 .eq (.v 184) (.v 207))) (.v 212)))])))))))))))))))))))))))))))
theorem c9 : compile Go.Proofs.Try.prog [s25, s30, s31, s32, s33, s34, s35, s36, s37, s38] Go.Proofs.Try.f9 s9.params s9.results = some t9 := by kernel_rfl
def L9 : List (Nat × (List LV → List LV)) := [(25, F25), (30, F30), (31, FN31), (32, F32), (33, F33), (34, F34), (35, F35), (36, F36), (37, F37), (38, FN38)]
def M9 : List (Nat × (List LV → Prop)) := [(25, R25)]
theorem h9 : ∀ sg, sg ∈ [s25, s30, s31, s32, s33, s34, s35, s36, s37, s38] → ConOk Go.Proofs.Try.prog (ap L9) (apR M9) sg := by
  intro sg h
  simp only [List.mem_cons, List.not_mem_nil, or_false] at h
  rcases h with rfl | rfl | rfl | rfl | rfl | rfl | rfl | rfl | rfl | rfl
  · exact k25.to rfl rfl
  · exact k30.to rfl rfl
  · exact kN31.to rfl rfl
  · exact k32.to rfl rfl
  · exact k33.to rfl rfl
  · exact k34.to rfl rfl
  · exact k35.to rfl rfl
  · exact k36.to rfl rfl
  · exact k37.to rfl rfl
  · exact kN38.to rfl rfl
def F9 (_ : List LV) : List LV := [.b true]
def R9 (ls : List LV) : Prop := PFit s9.params ls
set_option maxRecDepth 100000 in
theorem k9 : Kon Go.Proofs.Try.prog s9 F9 R9 := by
  refine con_ok h9 (by kernel_rfl) Go.Proofs.Try.func9 (by kernel_rfl) c9 ?_
  intro ls _ hr
  have hf := fit_flat hr
  have hs : Short ls := fit_sl hf (i := 11) rfl
  simp only [t9, Tr.den, L9, M9, ap, apR, if_true, Nat.reduceEqDiff, if_false, List.map_cons, List.map_nil, E.den, O1.ev, ev_add, ev_sub, ev_mul, ev_quo, ev_rem, ev_mx, ev_mn, ev_shl, ev_shr, ev_bit, ev_lt, ev_le, ev_eq, ev_and, ev_or, ev_eqb, ev_cat, ev_rcons, ev_rd, SameL, Col.same, F34, F36, F37, FN38]
  simp only [setE_lt, setE_hit, Nat.reduceLT, Nat.reduceLeDiff, Nat.reduceAdd, Nat.reduceSub]
  simp only [LV.Ii, LV.Bb, LV.Ll]
  have h1 : Short (F32 [outOf ls 0, outOf ls 1, outOf ls 2, outOf ls 3, outOf ls 4, outOf ls 5, outOf ls 6, outOf ls 7, outOf ls 8, outOf ls 9, outOf ls 10, outOf ls 11, outOf ls 12, outOf ls 13, outOf ls 14, outOf ls 15, outOf ls 16, outOf ls 17, outOf ls 18, outOf ls 19, outOf ls 20, outOf ls 21, outOf ls 22]) := short_F32 hs
  have h2 : Short (F35 [outOf ls 0, outOf ls 1, outOf ls 2, outOf ls 3, outOf ls 4, outOf ls 5, outOf ls 6, outOf ls 7, outOf ls 8, outOf ls 9, outOf ls 10, outOf ls 11, outOf ls 12, outOf ls 13, outOf ls 14, outOf ls 15, outOf ls 16, outOf ls 17, outOf ls 18, outOf ls 19, outOf ls 20, outOf ls 21, outOf ls 22]) := short_F35 hs
  have h3 : Short (F33 [outOf ls 0, outOf ls 1, outOf ls 2, outOf ls 3, outOf ls 4, outOf ls 5, outOf ls 6, outOf ls 7, outOf ls 8, outOf ls 9, outOf ls 10, outOf ls 11, outOf ls 12, outOf ls 13, outOf ls 14, outOf ls 15, outOf ls 16, outOf ls 17, outOf ls 18, outOf ls 19, outOf ls 20, outOf ls 21]) := short_F33 hs
  have h4 : Short (FN31 [outOf ls 22, outOf ls 23]) := short_FN31 _
  generalize F32 [outOf ls 0, outOf ls 1, outOf ls 2, outOf ls 3, outOf ls 4, outOf ls 5, outOf ls 6, outOf ls 7, outOf ls 8, outOf ls 9, outOf ls 10, outOf ls 11, outOf ls 12, outOf ls 13, outOf ls 14, outOf ls 15, outOf ls 16, outOf ls 17, outOf ls 18, outOf ls 19, outOf ls 20, outOf ls 21, outOf ls 22] = A1 at *
  generalize F35 [outOf ls 0, outOf ls 1, outOf ls 2, outOf ls 3, outOf ls 4, outOf ls 5, outOf ls 6, outOf ls 7, outOf ls 8, outOf ls 9, outOf ls 10, outOf ls 11, outOf ls 12, outOf ls 13, outOf ls 14, outOf ls 15, outOf ls 16, outOf ls 17, outOf ls 18, outOf ls 19, outOf ls 20, outOf ls 21, outOf ls 22] = A2 at *
  generalize F33 [outOf ls 0, outOf ls 1, outOf ls 2, outOf ls 3, outOf ls 4, outOf ls 5, outOf ls 6, outOf ls 7, outOf ls 8, outOf ls 9, outOf ls 10, outOf ls 11, outOf ls 12, outOf ls 13, outOf ls 14, outOf ls 15, outOf ls 16, outOf ls 17, outOf ls 18, outOf ls 19, outOf ls 20, outOf ls 21] = A3 at *
  generalize FN31 [outOf ls 22, outOf ls 23] = A4 at *
  refine ⟨fun _ => trivial, fun _ => trivial, fun _ => trivial, fun _ => trivial, fun _ => trivial, fun _ => trivial, fun _ => trivial, fun _ => trivial, fun _ => R25_same (outOf A1) h1, fun _ => R25_same (outOf A2) h2, fun _ => R25_same (outOf A3) h3, fun _ => R25_same (outOf A4) h4, fun _ => trivial, ?_, trivial⟩
  simp only [F25, F30, F9, outOf_z, LV.Bb]
  simp only [Bool.or_eq_true, Bool.and_eq_true, Bool.not_eq_true', tf_t, tf_f, Bool.or_eq_false_iff, Bool.and_eq_false_iff, and_self]
end Go.Proofs.Ythhnnfmfeofknaa.Sy
namespace Go.Proofs.Ythhnnfmfeofknaa
open Go.ChangeShapes Go.WideShapes Go.ChangeAt Go.RowKit
theorem cubicFalls_own : ownKnob Try.prog.godebug = none := by kernel_rfl
theorem cubicFalls_laidOut : laidOutB Try.prog = true := by kernel_rfl
set_option maxRecDepth 100000 in
theorem cubicFalls_lifted (os : Os) (started : os.Started) (H : Type) (enc : TypeId × Value → H) :
    ReturnsInHanded {} Try.checked os 9 .any (Rows.cubicFallsSpec.pre6 enc Try.prog Try.f9 Rows.cubicFallsRow.domain false) (Rows.cubicFallsSpec.post enc Try.prog Try.f9 false true false false) := by
  refine returnsInHanded_of_change (C := Try.checked) cubicFalls_own started (by kernel_rfl) Try.func9
    (ChangeSpec.witness6 (enc := enc) (C := Try.checked) false ⟨#[], #[.agg #[.int .i64 0, .int .i64 0, .int .i64 0, .int .i64 0, .int .i64 0, .int .i64 0, .int .i64 0, .int .i64 0, .int .i64 0, .int .i64 0, .int .i64 0, .slice none 0 0, .int .i64 0, .int .i64 0, .int .i64 0, .int .i64 0, .int .i64 0, .int .i64 0, .int .i64 0, .int .i64 0, .int .i64 0, .int .i64 0], .int .i64 0, .int .i64 0], []⟩ 8 (by kernel_rfl) (by kernel_rfl) (by kernel_rfl) (by kernel_rfl)) ?_
  intro W base args ds gs before hval0 hW hcnd _
  refine Sy.law_calls (b := 4) (s := Rows.cubicFallsSpec) (Sy.k9.to (Φ := fun _ => Sy.F9) (Pr := fun _ => Sy.R9) rfl rfl) cubicFalls_laidOut (by kernel_rfl) (by kernel_rfl) (by kernel_rfl) rfl ?_ (fun ls hf => ⟨hf, rfl⟩) hval0 hW
  intro ds hd
  have hd : ds.length = 3 := hd
  rcases ds with _ | ⟨d0, ds⟩
  · simp at hd
  rcases ds with _ | ⟨d1, ds⟩
  · simp at hd
  rcases ds with _ | ⟨d2, ds⟩
  · simp at hd
  rcases ds with _ | ⟨d, ds⟩
  · rfl
  · simp at hd
theorem cubicFalls_holds : Rows.CubicFallsSaid :=
  OpenClaim.holds_of_wide 9 Try.f9 rfl rfl rfl rfl rfl rfl rfl ⟨rfl, rfl, rfl, rfl, rfl⟩ rfl rfl rfl rfl rfl (by kernel_rfl) Try.func9 (by kernel_rfl)
    (of_decide_eq_true (by kernel_rfl)) (by unfold Func.isWrapper; first | (rw [if_pos (by decide +kernel)]; kernel_rfl) | (rw [if_neg (by decide +kernel)]; exact ⟨rfl, rfl⟩))
    (fun os started H enc _ => cubicFalls_lifted os started H enc)
#print axioms cubicFalls_holds
end Go.Proofs.Ythhnnfmfeofknaa

