/-
  cc: the heads of the statements; slices that are no longer than others.
-/
import Derived.Test.YthhnnfmfeofknaaCr
namespace Go.Proofs.Ythhnnfmfeofknaa.Sy
open Go Go.RowKit
set_option linter.unusedSimpArgs false
set_option linter.unusedVariables false

theorem short_F43 {ls : List LV} (h : Short ls) : Short (F43 ls) := by
  unfold F43
  split
  · split
    · refine short_l _ _ ?_
      unfold restC
      split
      · exact h
      · exact h
    · exact short_z _
  · exact short_z _
theorem short_F45 {ls : List LV} (h : Short ls) : Short (F45 ls) := by
  unfold F45
  split
  · split
    · exact short_l _ _ h
    · exact short_z _
  · exact short_z _
theorem short_FN78 (ls : List LV) : Short (FN78 ls) := by
  unfold FN78
  split
  · exact short_l _ _ (by simp [newG, zeroF])
  · exact short_z _
theorem short_FN51 (ls : List LV) : Short (FN51 ls) := by
  unfold FN51
  split
  · exact short_l _ _ (by simp [newG, zeroF])
  · exact short_z _
theorem short_F39 (ls : List LV) : Short (F39 ls) := by
  unfold F39
  split
  · exact short_FN78 _
  · split
    · exact short_FN31 _
    · split
      · exact short_FN51 _
      · have := short_z [.i 2]
        exact this
theorem R53_3 (ρ : Nat → LV) (a b c : LV) (h : (ρ 11).L.length ≤ 9223372036854775807) : R53 [ρ 0, ρ 1, ρ 2, ρ 3, ρ 4, ρ 5, ρ 6, ρ 7, ρ 8, ρ 9, ρ 10, ρ 11, ρ 12, ρ 13, ρ 14, ρ 15, ρ 16, ρ 17, ρ 18, ρ 19, ρ 20, ρ 21, a, b, c] := h
theorem R53_2 (ρ : Nat → LV) (a b : LV) (h : (ρ 11).L.length ≤ 9223372036854775807) : R53 [ρ 0, ρ 1, ρ 2, ρ 3, ρ 4, ρ 5, ρ 6, ρ 7, ρ 8, ρ 9, ρ 10, ρ 11, ρ 12, ρ 13, ρ 14, ρ 15, ρ 16, ρ 17, ρ 18, ρ 19, ρ 20, ρ 21, a, b] := h
/-! tideway/tidewaylaw19.heads -/
def s42 : Sig := ⟨42, 42, [], [.col (.base .bool)]⟩
def t42 : Tr (List (Col × E)) :=
 (.item (.bind 39 [(.ki (1)), (.ki (100)), (.ki (10))] 0 23)
 (.item (.pre (.kb true) 39 [(.ki (1)), (.ki (100)), (.ki (10))])
 (.item (.bind 39 [(.ki (2)), (.ki (100)), (.ki (10))] 23 23)
 (.item (.pre (.kb true) 39 [(.ki (2)), (.ki (100)), (.ki (10))])
 (.item (.bind 39 [(.ki (3)), (.ki (100)), (.ki (10))] 46 23)
 (.item (.pre (.kb true) 39 [(.ki (3)), (.ki (100)), (.ki (10))])
 (.item (.bind 39 [(.ki (4)), (.ki (1)), (.ki (1))] 69 23)
 (.item (.pre (.kb true) 39 [(.ki (4)), (.ki (1)), (.ki (1))])
 (.item (.bind 43 [(.v 0), (.v 1), (.v 2), (.v 3), (.v 4), (.v 5), (.v 6), (.v 7), (.v 8), (.v 9), (.v 10), (.v 11), (.v 12), (.v 13), (.v 14), (.v 15), (.v 16), (.v 17), (.v 18), (.v 19), (.v 20), (.v 21), (.ki (5000)), (.ki (1000)), (.ki (0))] 92 23)
 (.item (.pre (.kb true) 43 [(.v 0), (.v 1), (.v 2), (.v 3), (.v 4), (.v 5), (.v 6), (.v 7), (.v 8), (.v 9), (.v 10), (.v 11), (.v 12), (.v 13), (.v 14), (.v 15), (.v 16), (.v 17), (.v 18), (.v 19), (.v 20), (.v 21), (.ki (5000)), (.ki (1000)), (.ki (0))])
 (.item (.bind 47 [(.v 0), (.v 1), (.v 2), (.v 3), (.v 4), (.v 5), (.v 6), (.v 7), (.v 8), (.v 9), (.v 10), (.v 11), (.v 12), (.v 13), (.v 14), (.v 15), (.v 16), (.v 17), (.v 18), (.v 19), (.v 20), (.v 21), (.ki (100000)), (.ki (0))] 115 1)
 (.item (.bind 41 [(.ki (0)), (.ki (0)), (.ki (0)), (.ki (0)), (.ki (0)), (.ki (0)), (.ki (0)), (.ki (0)), (.ki (0)), (.ki (0)), (.ki (0)), .lnil, (.ki (0)), (.ki (0)), (.ki (0)), (.ki (0)), (.ki (0)), (.ki (0)), (.ki (0)), (.ki (0)), (.ki (0)), (.ki (0))] 116 1)
 (.item (.pre (.op2 .and (.op2 .and (.op2 .and (.op2 .eq (.v 22) (.ki (0))) (.op2 .eq (.v 45) (.ki (0)))) (.op2 .eq (.v 68) (.ki (0)))) (.op2 .eq (.v 91) (.ki (2)))) 47 [(.v 0), (.v 1), (.v 2), (.v 3), (.v 4), (.v 5), (.v 6), (.v 7), (.v 8), (.v 9), (.v 10), (.v 11), (.v 12), (.v 13), (.v 14), (.v 15), (.v 16), (.v 17), (.v 18), (.v 19), (.v 20), (.v 21), (.ki (100000)), (.ki (0))])
 (.item (.pre (.op2 .and (.op2 .and (.op2 .and (.op2 .and (.op2 .and (.op2 .and (.op2 .and (.op2 .and (.op2 .and (.op2 .eq (.v 22) (.ki (0))) (.op2 .eq (.v 45) (.ki (0)))) (.op2 .eq (.v 68) (.ki (0)))) (.op2 .eq (.v 91) (.ki (2)))) (.op2 .eq (.v 115) (.ki (20000)))) (.op2 .eq (.v 23) (.ki (2)))) (.op2 .eq (.v 56) (.ki (1)))) (.op2 .eq (.v 114) (.ki (0)))) (.op2 .eq (.v 94) (.ki (200)))) (.op2 .eq (.v 95) (.v 3))) 41 [(.ki (0)), (.ki (0)), (.ki (0)), (.ki (0)), (.ki (0)), (.ki (0)), (.ki (0)), (.ki (0)), (.ki (0)), (.ki (0)), (.ki (0)), .lnil, (.ki (0)), (.ki (0)), (.ki (0)), (.ki (0)), (.ki (0)), (.ki (0)), (.ki (0)), (.ki (0)), (.ki (0)), (.ki (0))])
 (.leaf [((.base .bool), (.op2 .and (.op2 .and (.op2 .and (.op2 .and (.op2 .and (.op2 .and (.op2 .and (.op2 .and (.op2 .and (.op2 .and (.op2 .eq (.v 22) (.ki (0))) (.op2 .eq (.v 45) (.ki (0)))) (.op2 .eq (.v 68) (.ki (0)))) (.op2 .eq (.v 91) (.ki (2)))) (.op2 .eq (.v 115) (.ki (20000)))) (.op2 .eq (.v 23) (.ki (2)))) (.op2 .eq (.v 56) (.ki (1)))) (.op2 .eq (.v 114) (.ki (0)))) (.op2 .eq (.v 94) (.ki (200)))) (.op2 .eq (.v 95) (.v 3))) (.op2 .eq (.v 116) (.ki (230)))))])))))))))))))))
theorem c42 : compile Go.Proofs.Try.prog [s39, s41, s43, s47] Go.Proofs.Try.f42 s42.params s42.results = some t42 := by kernel_rfl
def L42 : List (Nat × (List LV → List LV)) := [(39, F39), (41, F41), (43, F43), (47, F47)]
def M42 : List (Nat × (List LV → Prop)) := [(41, R41), (43, R43), (47, R47)]
theorem h42 : ∀ sg, sg ∈ [s39, s41, s43, s47] → ConOk Go.Proofs.Try.prog (ap L42) (apR M42) sg := by
  intro sg h
  simp only [List.mem_cons, List.not_mem_nil, or_false] at h
  rcases h with rfl | rfl | rfl | rfl
  · exact k39.to rfl rfl
  · exact k41.to rfl rfl
  · exact k43.to rfl rfl
  · exact k47.to rfl rfl
def F42 (_ : List LV) : List LV := [.b true]
set_option maxRecDepth 100000 in
theorem k42 : Kon Go.Proofs.Try.prog s42 F42 (fun _ => True) := by
  refine con_ok h42 (by kernel_rfl) Go.Proofs.Try.func42 (by kernel_rfl) c42 ?_
  intro ls _ _
  simp only [t42, Tr.den, L42, M42, ap, apR, if_true, Nat.reduceEqDiff, if_false, List.map_cons, List.map_nil, E.den, O1.ev, ev_add, ev_sub, ev_mul, ev_quo, ev_rem, ev_mx, ev_mn, ev_shl, ev_shr, ev_bit, ev_lt, ev_le, ev_eq, ev_and, ev_or, ev_eqb, ev_cat, ev_rcons, ev_rd, SameL, Col.same]
  simp only [setE_lt, setE_hit, Nat.reduceLT, Nat.reduceLeDiff, Nat.reduceAdd, Nat.reduceSub]
  simp only [LV.Ii, LV.Bb, LV.Ll]
  refine ⟨fun _ => trivial, fun _ => trivial, fun _ => trivial, fun _ => trivial, fun _ => R53_3 (outOf (F39 [.i 1, .i 100, .i 10])) _ _ _ (short_F39 _), fun _ => R53_2 (outOf (F39 [.i 1, .i 100, .i 10])) _ _ (short_F39 _), fun _ => R53_ok zeroF (by decide), ?_, trivial⟩
  simp only [F42, outOf_z, LV.Bb]
  simp only [Bool.or_eq_true, Bool.and_eq_true, Bool.not_eq_true', tf_t, tf_f, Bool.or_eq_false_iff, Bool.and_eq_false_iff]
  repeat' apply And.intro
  all_goals kernel_rfl
end Go.Proofs.Ythhnnfmfeofknaa.Sy
