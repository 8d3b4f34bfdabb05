/-
  cubic: fresh controllers, the heads of the statements; what fitting arguments are.
-/
import Derived.Test.YthhnnfmfeofknaaCm
namespace Go.Proofs.Ythhnnfmfeofknaa.Sy
open Go Go.RowKit
set_option linter.unusedSimpArgs false
set_option linter.unusedVariables false

def newC (mss first : Int) : Nat → LV := fun i => if i = 0 then .i 2 else if i = 1 then .i mss else if i = 2 then .i (mss * first) else if i = 3 then .i 1073741824 else if i = 6 then .i (-1) else zeroF i
abbrev NewOk (mss first : Int) : Prop := (1 ≤ mss ∧ mss ≤ 65000) ∧ 1 ≤ first ∧ first ≤ 100
def FN31 (ls : List LV) : List LV := if NewOk (outOf ls 0).I (outOf ls 1).I then l22 (newC (outOf ls 0).I (outOf ls 1).I) ++ [.i 0] else z22 ++ [.i 2]
abbrev FN38 := FN31
theorem new_wrap {a b : Int} (h : NewOk a b) : IntKind.i64.wrap (a * b) = a * b ∧ IntKind.i64.wrap (b * a) = a * b := by
  obtain ⟨⟨h1, h2⟩, h3, h4⟩ := h
  have := prodI (a := a) (b := b) (A := 65000) (B := 100) (by omega) (by omega) h2 h4
  rw [Int.mul_comm b a, wrap_i64 (by omega) (by omega)]
  exact ⟨rfl, rfl⟩

theorem kN31 : Kon Go.Proofs.Try.prog s31 FN31 (fun _ => True) := by
  refine con_ok h31 (by kernel_rfl) Go.Proofs.Try.func31 (by kernel_rfl) c31 ?_
  intro ls _ _
  simp only [t31, Tr.den, L31, M31, ap, apR, if_true, Nat.reduceEqDiff, if_false, List.map_cons, List.map_nil, E.den, O1.ev, ev_add, ev_sub, ev_mul, ev_quo, ev_rem, ev_mx, ev_mn, ev_shl, ev_shr, ev_bit, ev_lt, ev_le, ev_eq, ev_and, ev_or, ev_eqb, ev_cat, ev_rcons, ev_rd, SameL, Col.same]
  simp only [setE_lt, setE_hit, Nat.reduceLT, Nat.reduceLeDiff, Nat.reduceAdd, Nat.reduceSub]
  simp only [FN38, FN31]
  simp only [F78, t78, Tr.ev, L78, ap, if_true, Nat.reduceEqDiff, if_false, List.map_cons, List.map_nil, E.den, O1.ev, ev_add, ev_sub, ev_mul, ev_quo, ev_rem, ev_mx, ev_mn, ev_shl, ev_shr, ev_bit, ev_lt, ev_le, ev_eq, ev_and, ev_or, ev_eqb, ev_cat, ev_rcons, ev_rd]
  simp only [outOf_z, outOf_s, LV.Ii, LV.Bb, LV.Ll]
  by_cases hb : NewOk (outOf ls 0).I (outOf ls 1).I
  · obtain ⟨w1, w2⟩ := new_wrap hb
    simp only [if_pos hb]
    have hc : ¬ (((tf ((outOf ls 0).I < 1) || tf (65000 < (outOf ls 0).I) || tf ((outOf ls 1).I < 1)) || tf (100 < (outOf ls 1).I)) = true) := by
      simp only [Bool.or_eq_true, Bool.and_eq_true, Bool.not_eq_true', tf_t, tf_f, Bool.or_eq_false_iff, Bool.and_eq_false_iff]
      omega
    simp only [if_neg hc]
    simp only [outOf_z, outOf_s, LV.Ii, LV.Bb, LV.Ll, tf_t, if_true, w1, w2, newC]
    skip
    simp only [out22, out22b, out22z, out22zb, zeroF, fset, newC, implies_true, Nat.reduceEqDiff, if_true, if_false, setE_lt, setE_hit, Nat.reduceLT, Nat.reduceLeDiff, Nat.reduceAdd, Nat.reduceSub, outOf_z, outOf_s, LV.Ii, LV.Bb, LV.Ll, and_true, and_self, true_and]
  · simp only [if_neg hb]
    have hc : (((tf ((outOf ls 0).I < 1) || tf (65000 < (outOf ls 0).I) || tf ((outOf ls 1).I < 1)) || tf (100 < (outOf ls 1).I)) = true) := by
      simp only [Bool.or_eq_true, Bool.and_eq_true, Bool.not_eq_true', tf_t, tf_f, Bool.or_eq_false_iff, Bool.and_eq_false_iff]
      omega
    simp only [if_pos hc]
    simp only [outOf_z, outOf_s, LV.Ii, LV.Bb, LV.Ll]
    simp only [tf_t, show ¬ ((2 : Int) = 0) by omega, if_false]
    simp only [out22, out22b, out22z, out22zb, zeroF, fset, newC, implies_true, Nat.reduceEqDiff, if_true, if_false, setE_lt, setE_hit, Nat.reduceLT, Nat.reduceLeDiff, Nat.reduceAdd, Nat.reduceSub, outOf_z, outOf_s, LV.Ii, LV.Bb, LV.Ll, and_true, and_self, true_and]
theorem kN38 : Kon Go.Proofs.Try.prog s38 FN38 (fun _ => True) := by
  refine con_ok h38 (by kernel_rfl) Go.Proofs.Try.func38 (by kernel_rfl) c38 ?_
  intro ls _ _
  simp only [t38, Tr.den, L38, M38, ap, apR, if_true, Nat.reduceEqDiff, if_false, List.map_cons, List.map_nil, E.den, O1.ev, ev_add, ev_sub, ev_mul, ev_quo, ev_rem, ev_mx, ev_mn, ev_shl, ev_shr, ev_bit, ev_lt, ev_le, ev_eq, ev_and, ev_or, ev_eqb, ev_cat, ev_rcons, ev_rd, SameL, Col.same]
  simp only [setE_lt, setE_hit, Nat.reduceLT, Nat.reduceLeDiff, Nat.reduceAdd, Nat.reduceSub]
  simp only [FN38, FN31]
  simp only [F83, t83, Tr.ev, L83, ap, if_true, Nat.reduceEqDiff, if_false, List.map_cons, List.map_nil, E.den, O1.ev, ev_add, ev_sub, ev_mul, ev_quo, ev_rem, ev_mx, ev_mn, ev_shl, ev_shr, ev_bit, ev_lt, ev_le, ev_eq, ev_and, ev_or, ev_eqb, ev_cat, ev_rcons, ev_rd]
  simp only [outOf_z, outOf_s, LV.Ii, LV.Bb, LV.Ll]
  by_cases hb : NewOk (outOf ls 0).I (outOf ls 1).I
  · obtain ⟨w1, w2⟩ := new_wrap hb
    simp only [if_pos hb]
    have hc : ¬ (((tf ((outOf ls 0).I < 1) || tf (65000 < (outOf ls 0).I) || tf ((outOf ls 1).I < 1)) || tf (100 < (outOf ls 1).I)) = true) := by
      simp only [Bool.or_eq_true, Bool.and_eq_true, Bool.not_eq_true', tf_t, tf_f, Bool.or_eq_false_iff, Bool.and_eq_false_iff]
      omega
    simp only [if_neg hc]
    simp only [outOf_z, outOf_s, LV.Ii, LV.Bb, LV.Ll, tf_t, if_true, w1, w2, newC]
    rw [if_neg (by simp [tf_d])]
    simp only [out22, out22b, out22z, out22zb, zeroF, fset, newC, implies_true, Nat.reduceEqDiff, if_true, if_false, setE_lt, setE_hit, Nat.reduceLT, Nat.reduceLeDiff, Nat.reduceAdd, Nat.reduceSub, outOf_z, outOf_s, LV.Ii, LV.Bb, LV.Ll, and_true, and_self, true_and]
  · simp only [if_neg hb]
    have hc : (((tf ((outOf ls 0).I < 1) || tf (65000 < (outOf ls 0).I) || tf ((outOf ls 1).I < 1)) || tf (100 < (outOf ls 1).I)) = true) := by
      simp only [Bool.or_eq_true, Bool.and_eq_true, Bool.not_eq_true', tf_t, tf_f, Bool.or_eq_false_iff, Bool.and_eq_false_iff]
      omega
    simp only [if_pos hc]
    simp only [outOf_z, outOf_s, LV.Ii, LV.Bb, LV.Ll]
    rw [if_pos (by simp [tf_d])]
    simp only [out22, out22b, out22z, out22zb, zeroF, fset, newC, implies_true, Nat.reduceEqDiff, if_true, if_false, setE_lt, setE_hit, Nat.reduceLT, Nat.reduceLeDiff, Nat.reduceAdd, Nat.reduceSub, outOf_z, outOf_s, LV.Ii, LV.Bb, LV.Ll, and_true, and_self, true_and]
/-! tideway/tidewaylaw16.heads -/
def s30 : Sig := ⟨30, 30, [], [.col (.base .bool)]⟩
def t30 : Tr (List (Col × E)) :=
 (.item (.bind 23 [(.ki (2)), (.ki (10)), (.ki (70)), (.ki (70)), (.ki (0)), (.ki (100)), (.ki (-1)), (.ki (0)), (.ki (0)), (.ki (0)), (.ki (0)), .lnil, (.ki (0)), (.ki (0)), (.ki (0)), (.ki (0)), (.ki (0)), (.ki (0)), (.ki (0)), (.ki (0)), (.ki (0)), (.ki (0)), (.ki (10)), (.ki (5)), (.ki (0)), (.kb false)] 0 23)
 (.item (.pre (.kb true) 23 [(.ki (2)), (.ki (10)), (.ki (70)), (.ki (70)), (.ki (0)), (.ki (100)), (.ki (-1)), (.ki (0)), (.ki (0)), (.ki (0)), (.ki (0)), .lnil, (.ki (0)), (.ki (0)), (.ki (0)), (.ki (0)), (.ki (0)), (.ki (0)), (.ki (0)), (.ki (0)), (.ki (0)), (.ki (0)), (.ki (10)), (.ki (5)), (.ki (0)), (.kb false)])
 (.item (.bind 32 [(.ki (2)), (.ki (10)), (.ki (70)), (.ki (70)), (.ki (0)), (.ki (100)), (.ki (-1)), (.ki (0)), (.ki (0)), (.ki (0)), (.ki (0)), .lnil, (.ki (0)), (.ki (0)), (.ki (0)), (.ki (0)), (.ki (0)), (.ki (0)), (.ki (0)), (.ki (0)), (.ki (0)), (.ki (0)), (.ki (0))] 23 23)
 (.item (.pre (.kb true) 32 [(.ki (2)), (.ki (10)), (.ki (70)), (.ki (70)), (.ki (0)), (.ki (100)), (.ki (-1)), (.ki (0)), (.ki (0)), (.ki (0)), (.ki (0)), .lnil, (.ki (0)), (.ki (0)), (.ki (0)), (.ki (0)), (.ki (0)), (.ki (0)), (.ki (0)), (.ki (0)), (.ki (0)), (.ki (0)), (.ki (0))])
 (.item (.bind 31 [(.ki (0)), (.ki (1))] 46 23)
 (.item (.pre (.kb true) 31 [(.ki (0)), (.ki (1))])
 (.item (.bind 28 [(.v 0), (.v 1), (.v 2), (.v 3), (.v 4), (.v 5), (.v 6), (.v 7), (.v 8), (.v 9), (.v 10), (.v 11), (.v 12), (.v 13), (.v 14), (.v 15), (.v 16), (.v 17), (.v 18), (.v 19), (.v 20), (.v 21), (.ki (1957))] 69 1)
 (.item (.bind 28 [(.v 0), (.v 1), (.v 2), (.v 3), (.v 4), (.v 5), (.v 6), (.v 7), (.v 8), (.v 9), (.v 10), (.v 11), (.v 12), (.v 13), (.v 14), (.v 15), (.v 16), (.v 17), (.v 18), (.v 19), (.v 20), (.v 21), (.ki (0))] 70 1)
 (.item (.bind 26 [(.ki (0)), (.ki (0)), (.ki (0)), (.ki (0)), (.ki (0)), (.ki (0)), (.ki (0)), (.ki (0)), (.ki (0)), (.ki (0)), (.ki (0)), .lnil, (.ki (0)), (.ki (0)), (.ki (0)), (.ki (0)), (.ki (0)), (.ki (0)), (.ki (0)), (.ki (0)), (.ki (0)), (.ki (0))] 71 1)
 (.item (.pre (.op2 .and (.op2 .and (.op2 .eq (.v 22) (.ki (0))) (.op2 .eq (.v 7) (.ki (1957)))) (.op2 .eq (.v 6) (.ki (5)))) 28 [(.v 0), (.v 1), (.v 2), (.v 3), (.v 4), (.v 5), (.v 6), (.v 7), (.v 8), (.v 9), (.v 10), (.v 11), (.v 12), (.v 13), (.v 14), (.v 15), (.v 16), (.v 17), (.v 18), (.v 19), (.v 20), (.v 21), (.ki (1957))])
 (.item (.pre (.op2 .and (.op2 .and (.op2 .and (.op2 .eq (.v 22) (.ki (0))) (.op2 .eq (.v 7) (.ki (1957)))) (.op2 .eq (.v 6) (.ki (5)))) (.op2 .eq (.v 69) (.ki (100)))) 28 [(.v 0), (.v 1), (.v 2), (.v 3), (.v 4), (.v 5), (.v 6), (.v 7), (.v 8), (.v 9), (.v 10), (.v 11), (.v 12), (.v 13), (.v 14), (.v 15), (.v 16), (.v 17), (.v 18), (.v 19), (.v 20), (.v 21), (.ki (0))])
 (.item (.pre (.op2 .and (.op2 .and (.op2 .and (.op2 .and (.op2 .and (.op2 .and (.op2 .and (.op2 .and (.op2 .eq (.v 22) (.ki (0))) (.op2 .eq (.v 7) (.ki (1957)))) (.op2 .eq (.v 6) (.ki (5)))) (.op2 .eq (.v 69) (.ki (100)))) (.op2 .eq (.v 70) (.ki (71)))) (.op2 .eq (.v 45) (.ki (0)))) (.op2 .eq (.v 28) (.ki (59)))) (.op2 .eq (.v 26) (.ki (49)))) (.op2 .eq (.v 68) (.ki (2)))) 26 [(.ki (0)), (.ki (0)), (.ki (0)), (.ki (0)), (.ki (0)), (.ki (0)), (.ki (0)), (.ki (0)), (.ki (0)), (.ki (0)), (.ki (0)), .lnil, (.ki (0)), (.ki (0)), (.ki (0)), (.ki (0)), (.ki (0)), (.ki (0)), (.ki (0)), (.ki (0)), (.ki (0)), (.ki (0))])
 (.leaf [((.base .bool), (.op2 .and (.op2 .and (.op2 .and (.op2 .and (.op2 .and (.op2 .and (.op2 .and (.op2 .and (.op2 .and (.op2 .eq (.v 22) (.ki (0))) (.op2 .eq (.v 7) (.ki (1957)))) (.op2 .eq (.v 6) (.ki (5)))) (.op2 .eq (.v 69) (.ki (100)))) (.op2 .eq (.v 70) (.ki (71)))) (.op2 .eq (.v 45) (.ki (0)))) (.op2 .eq (.v 28) (.ki (59)))) (.op2 .eq (.v 26) (.ki (49)))) (.op2 .eq (.v 68) (.ki (2)))) (.op2 .eq (.v 71) (.ki (230)))))])))))))))))))
theorem c30 : compile Go.Proofs.Try.prog [s23, s26, s28, s31, s32] Go.Proofs.Try.f30 s30.params s30.results = some t30 := by kernel_rfl
def L30 : List (Nat × (List LV → List LV)) := [(23, F23), (26, F26), (28, F28), (31, FN31), (32, F32)]
def M30 : List (Nat × (List LV → Prop)) := [(28, R28)]
theorem h30 : ∀ sg, sg ∈ [s23, s26, s28, s31, s32] → ConOk Go.Proofs.Try.prog (ap L30) (apR M30) sg := by
  intro sg h
  simp only [List.mem_cons, List.not_mem_nil, or_false] at h
  rcases h with rfl | rfl | rfl | rfl | rfl
  · exact k23.to rfl rfl
  · exact k26.to rfl rfl
  · exact k28.to rfl rfl
  · exact kN31.to rfl rfl
  · exact k32.to rfl rfl
def F30 (_ : List LV) : List LV := [.b true]
set_option maxRecDepth 100000 in
theorem k30 : Kon Go.Proofs.Try.prog s30 F30 (fun _ => True) := by
  refine con_ok h30 (by kernel_rfl) Go.Proofs.Try.func30 (by kernel_rfl) c30 ?_
  intro ls _ _
  simp only [F30, outOf_z, LV.Bb]
  simp only [t30, Tr.den, L30, M30, ap, apR, if_true, Nat.reduceEqDiff, if_false, List.map_cons, List.map_nil, E.den, O1.ev, ev_add, ev_sub, ev_mul, ev_quo, ev_rem, ev_mx, ev_mn, ev_shl, ev_shr, ev_bit, ev_lt, ev_le, ev_eq, ev_and, ev_or, ev_eqb, ev_cat, ev_rcons, ev_rd, SameL, Col.same]
  simp only [setE_lt, setE_hit, Nat.reduceLT, Nat.reduceLeDiff, Nat.reduceAdd, Nat.reduceSub]
  simp only [LV.Ii, LV.Bb, LV.Ll]
  refine ⟨fun _ => trivial, fun _ => trivial, fun _ => trivial, fun _ => ⟨by decide, by decide⟩, fun _ => ⟨by decide, by decide⟩, fun _ => trivial, ?_, trivial⟩
  simp only [outOf_z, LV.Bb]
  simp only [Bool.or_eq_true, Bool.and_eq_true, Bool.not_eq_true', tf_t, tf_f, Bool.or_eq_false_iff, Bool.and_eq_false_iff]
  repeat' apply And.intro
  all_goals kernel_rfl
/-! ### Arguments that fit -/
def flatC : List PSh → List Col
  | [] => []
  | .col c :: ps => c :: flatC ps
  | .agg cs :: ps => cs ++ flatC ps
  | _ :: _ => []
theorem fit_flat : ∀ {ps : List PSh} {ls : List LV}, PFit ps ls → All2 Col.fit (flatC ps) ls := by
  intro ps
  induction ps with
  | nil => intro ls h; simp only [PFit] at h; subst h; exact .nil
  | cons q ps ih =>
    intro ls h
    cases q with
    | col c =>
      obtain ⟨l, ls', rfl, h1, h2⟩ := h
      exact .cons h1 (ih h2)
    | agg cs =>
      obtain ⟨l1, ls', rfl, h1, h2⟩ := h
      exact h1.append (ih h2)
    | ptr _ _ => exact h.elim
    | fn _ => exact h.elim
theorem fit_i64 {cs : List Col} {ls : List LV} (h : All2 Col.fit cs ls) {i : Nat} (hc : cs[i]? = some I64) : ∃ n, outOf ls i = .i n ∧ In64 n := by
  obtain ⟨y, hy, n, rfl, h1, h2⟩ := h.get hc
  refine ⟨n, ?_, h1, h2⟩
  unfold outOf
  rw [List.getD_eq_getElem?_getD, hy]
  rfl
theorem fit_in {cs : List Col} {ls : List LV} (h : All2 Col.fit cs ls) {i : Nat} (hc : cs[i]? = some I64) : In64 (outOf ls i).I := by
  obtain ⟨n, h1, h2⟩ := fit_i64 h hc
  rw [h1]; exact h2
theorem fit_sl {cs : List Col} {ls : List LV} (h : All2 Col.fit cs ls) {i : Nat} {bs : List BC} (hc : cs[i]? = some (.sl bs)) : (outOf ls i).L.length ≤ 9223372036854775807 := by
  obtain ⟨y, hy, rows, rfl, h1, _⟩ := h.get hc
  unfold outOf
  rw [List.getD_eq_getElem?_getD, hy]
  simp only [Option.getD_some, LV.L_l]
  omega
theorem R25_same (f : Nat → LV) (h : (f 11).L.length ≤ 9223372036854775807) : R25 [f 0, f 1, f 2, f 3, f 4, f 5, f 6, f 7, f 8, f 9, f 10, f 11, f 12, f 13, f 14, f 15, f 16, f 17, f 18, f 19, f 20, f 21, f 0, f 1, f 2, f 3, f 4, f 5, f 6, f 7, f 8, f 9, f 10, f 11, f 12, f 13, f 14, f 15, f 16, f 17, f 18, f 19, f 20, f 21] := by
  refine ⟨?_, ?_, ?_⟩
  · simp only [outOf_z, outOf_s, and_self]
  · simp only [outOf_z, outOf_s]
  · simp only [outOf_z, outOf_s]; exact h
/-- A list of 22 fields and a code whose slice is no longer than another's. -/
abbrev Short (A : List LV) : Prop := (outOf A 11).L.length ≤ 9223372036854775807
theorem short_z (r : List LV) : Short (z22 ++ r) := by
  unfold Short
  rw [out22z r (by omega)]
  simp [zeroF]
theorem short_l (g : Nat → LV) (r : List LV) (h : (g 11).L.length ≤ 9223372036854775807) : Short (l22 g ++ r) := by
  unfold Short
  rw [out22 g r (by omega)]
  exact h
theorem short_F32 {ls : List LV} (h : Short ls) : Short (F32 ls) := by
  unfold F32
  split
  · split
    · exact short_l _ _ h
    · exact short_z _
  · exact short_z _
theorem short_F35 {ls : List LV} (h : Short ls) : Short (F35 ls) := by
  unfold F35
  split
  · split
    · exact short_l _ _ h
    · exact short_z _
  · exact short_z _
theorem short_F33 {ls : List LV} (h : Short ls) : Short (F33 ls) := by
  unfold F33
  split
  · exact short_l _ _ h
  · exact short_z _
theorem short_FN31 (ls : List LV) : Short (FN31 ls) := by
  unfold FN31
  split
  · exact short_l _ _ (by simp [newC, zeroF])
  · exact short_z _
theorem short_begun {f : Nat → LV} {x : LV} (h : (f 11).L.length ≤ 9223372036854775807) : (begun' f x 11).L.length ≤ 9223372036854775807 := by
  unfold begun'
  split
  · exact h
  · exact h
theorem short_F23 {ls : List LV} (h : Short ls) : Short (F23 ls) := by
  unfold F23
  split
  · split
    · split
      · exact short_l _ _ h
      · split
        · exact short_l _ _ h
        · exact short_l _ _ (short_begun h)
    · exact short_z _
  · exact short_z _

end Go.Proofs.Ythhnnfmfeofknaa.Sy
