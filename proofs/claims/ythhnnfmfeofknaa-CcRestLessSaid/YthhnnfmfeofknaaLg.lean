/-
  CcRestLess: for every controller, right or not, and all numbers: a time without sending raises no window, takes no more than is used, and leaves a controller that may be; no condition.
-/
import Derived.Test.YthhnnfmfeofknaaCs
import Derived.Test.YthhnnfmfeofknaaRows
namespace Go.Proofs.Ythhnnfmfeofknaa.Sy
open Go Go.RowKit
set_option linter.unusedSimpArgs false
set_option linter.unusedVariables false

/-! tideway/tidewaylaw19.CcRestLess -/
def s11 : Sig := ⟨11, 11, [.agg [I64, I64, I64, I64, I64, I64, I64, I64, I64, I64, I64, (.sl [(.int .i64), (.int .i64)]), I64, I64, I64, I64, I64, I64, I64, I64, I64, I64], .col I64, .col I64, .col I64], [.col (.base .bool)]⟩
def t11 : Tr (List (Col × E)) :=
 (.item (.bind 43 [(.v 0), (.v 1), (.v 2), (.v 3), (.v 4), (.v 5), (.v 6), (.v 7), (.v 8), (.v 9), (.v 10), (.v 11), (.v 12), (.v 13), (.v 14), (.v 15), (.v 16), (.v 17), (.v 18), (.v 19), (.v 20), (.v 21), (.v 22), (.v 23), (.v 24)] 25 23)
 (.item (.pre (.kb true) 43 [(.v 0), (.v 1), (.v 2), (.v 3), (.v 4), (.v 5), (.v 6), (.v 7), (.v 8), (.v 9), (.v 10), (.v 11), (.v 12), (.v 13), (.v 14), (.v 15), (.v 16), (.v 17), (.v 18), (.v 19), (.v 20), (.v 21), (.v 22), (.v 23), (.v 24)])
 (.ite (.op1 .not (.op2 .eq (.v 47) (.ki (0))))
 (.item (.bind 42 [] 48 1)
 (.item (.pre (.kb true) 42 [])
 (.leaf [((.base .bool), (.v 48))])))
 (.item (.bind 41 [(.v 25), (.v 26), (.v 27), (.v 28), (.v 29), (.v 30), (.v 31), (.v 32), (.v 33), (.v 34), (.v 35), (.v 36), (.v 37), (.v 38), (.v 39), (.v 40), (.v 41), (.v 42), (.v 43), (.v 44), (.v 45), (.v 46)] 49 1)
 (.item (.bind 42 [] 50 1)
 (.item (.pre (.op2 .and (.op2 .and (.op2 .and (.op2 .le (.v 27) (.v 2)) (.op2 .le (.op2 .mn (.v 2) (.v 24)) (.v 27))) (.op2 .le (.op2 .mn (.v 2) (.op1 (.wrap .i64) (.op2 .mul (.ki (2)) (.v 1)))) (.v 27))) (.op2 .le (.v 3) (.v 28))) 41 [(.v 25), (.v 26), (.v 27), (.v 28), (.v 29), (.v 30), (.v 31), (.v 32), (.v 33), (.v 34), (.v 35), (.v 36), (.v 37), (.v 38), (.v 39), (.v 40), (.v 41), (.v 42), (.v 43), (.v 44), (.v 45), (.v 46)])
 (.item (.pre (.op2 .and (.op2 .and (.op2 .and (.op2 .and (.op2 .le (.v 27) (.v 2)) (.op2 .le (.op2 .mn (.v 2) (.v 24)) (.v 27))) (.op2 .le (.op2 .mn (.v 2) (.op1 (.wrap .i64) (.op2 .mul (.ki (2)) (.v 1)))) (.v 27))) (.op2 .le (.v 3) (.v 28))) (.op2 .eq (.v 49) (.ki (0)))) 42 [])
 (.leaf [((.base .bool), (.op2 .and (.op2 .and (.op2 .and (.op2 .and (.op2 .and (.op2 .le (.v 27) (.v 2)) (.op2 .le (.op2 .mn (.v 2) (.v 24)) (.v 27))) (.op2 .le (.op2 .mn (.v 2) (.op1 (.wrap .i64) (.op2 .mul (.ki (2)) (.v 1)))) (.v 27))) (.op2 .le (.v 3) (.v 28))) (.op2 .eq (.v 49) (.ki (0)))) (.v 50)))]))))))))
theorem c11 : compile Go.Proofs.Try.prog [s41, s42, s43] Go.Proofs.Try.f11 s11.params s11.results = some t11 := by kernel_rfl
def L11 : List (Nat × (List LV → List LV)) := [(41, F41), (42, F42), (43, F43)]
def M11 : List (Nat × (List LV → Prop)) := [(41, R41), (43, R43)]
theorem h11 : ∀ sg, sg ∈ [s41, s42, s43] → ConOk Go.Proofs.Try.prog (ap L11) (apR M11) sg := by
  intro sg h
  simp only [List.mem_cons, List.not_mem_nil, or_false] at h
  rcases h with rfl | rfl | rfl
  · exact k41.to rfl rfl
  · exact k42.to rfl rfl
  · exact k43.to rfl rfl
def F11 (_ : List LV) : List LV := [.b true]
def R11 (ls : List LV) : Prop := PFit s11.params ls
theorem rest_ok {f : Nat → LV} {idle rto used : Int} (h : CcOk f) (hu : SizeI used) : CcOk (restC f idle rto used) ∧ (restC f idle rto used 2).I ≤ (f 2).I ∧ min (f 2).I used ≤ (restC f idle rto used 2).I ∧ min (f 2).I (2 * (f 1).I) ≤ (restC f idle rto used 2).I ∧ (f 3).I ≤ (restC f idle rto used 3).I := by
  have hb := cc_bounds h
  unfold restC
  split
  · exact ⟨h, by omega, by omega, by omega, by omega⟩
  rename_i hq
  generalize (f 2).I / 2 ^ (min 20 (idle / rto)).toNat = z
  have h2 : (fset (fset f 3 (.i (max (f 3).I (3 * (f 2).I / 4)))) 2 (.i (min (f 2).I (max (max z used) (2 * (f 1).I)))) 2).I = min (f 2).I (max (max z used) (2 * (f 1).I)) := rfl
  have h3 : (fset (fset f 3 (.i (max (f 3).I (3 * (f 2).I / 4)))) 2 (.i (min (f 2).I (max (max z used) (2 * (f 1).I)))) 3).I = max (f 3).I (3 * (f 2).I / 4) := rfl
  have hk : ∀ i, i ≠ 2 → i ≠ 3 → fset (fset f 3 (.i (max (f 3).I (3 * (f 2).I / 4)))) 2 (.i (min (f 2).I (max (max z used) (2 * (f 1).I)))) i = f i := fun i h1 h2 => by unfold fset; rw [if_neg h1, if_neg h2]
  generalize fset (fset f 3 (.i (max (f 3).I (3 * (f 2).I / 4)))) 2 (.i (min (f 2).I (max (max z used) (2 * (f 1).I)))) = g at *
  refine ⟨?_, by omega, by omega, by omega, by omega⟩
  have k0 := hk 0 (by omega) (by omega)
  have k1 := hk 1 (by omega) (by omega)
  have k4 := hk 4 (by omega) (by omega)
  have k5 := hk 5 (by omega) (by omega)
  have k6 := hk 6 (by omega) (by omega)
  have k7 := hk 7 (by omega) (by omega)
  have k8 := hk 8 (by omega) (by omega)
  have k9 := hk 9 (by omega) (by omega)
  have hn : NoBbr g ↔ NoBbr f := by
    unfold NoBbr
    rw [hk 10 (by omega) (by omega), hk 11 (by omega) (by omega), hk 12 (by omega) (by omega), hk 13 (by omega) (by omega), hk 14 (by omega) (by omega), hk 15 (by omega) (by omega), hk 16 (by omega) (by omega), hk 17 (by omega) (by omega), hk 18 (by omega) (by omega), hk 19 (by omega) (by omega), hk 20 (by omega) (by omega), hk 21 (by omega) (by omega)]
  rcases h with h | h | h
  · obtain ⟨g1, g2, g3, g4⟩ := h
    refine .inl ⟨by rw [k0]; exact g1, ?_, ?_, hn.2 g4⟩
    · unfold Common at *; rw [k1, k4, h2, h3]; omega
    · unfold NoCubic at *; rw [k5, k6, k7, k8, k9]; exact g3
  · obtain ⟨g1, g2, g3, g4, g5⟩ := h
    refine .inr (.inl ⟨by rw [k0]; exact g1, ?_, by rw [k5, k8, k9]; exact g3, by rw [k7, k6]; exact g4, hn.2 g5⟩)
    unfold Common at *; rw [k1, k4, h2, h3]; omega
  · exact absurd (.inl h.1.1) hq
set_option maxRecDepth 100000 in
theorem k11 : Kon Go.Proofs.Try.prog s11 F11 R11 := by
  refine con_ok h11 (by kernel_rfl) Go.Proofs.Try.func11 (by kernel_rfl) c11 ?_
  intro ls _ hr
  have hf := fit_flat hr
  have hs : Short ls := fit_sl hf (i := 11) rfl
  simp only [t11, Tr.den, L11, M11, ap, apR, if_true, Nat.reduceEqDiff, if_false, List.map_cons, List.map_nil, E.den, O1.ev, ev_add, ev_sub, ev_mul, ev_quo, ev_rem, ev_mx, ev_mn, ev_shl, ev_shr, ev_bit, ev_lt, ev_le, ev_eq, ev_and, ev_or, ev_eqb, ev_cat, ev_rcons, ev_rd, SameL, Col.same]
  simp only [setE_lt, setE_hit, Nat.reduceLT, Nat.reduceLeDiff, Nat.reduceAdd, Nat.reduceSub]
  simp only [E41]
  simp only [LV.Ii, LV.Bb, LV.Ll]
  have h1 : Short (F43 ls) := short_F43 hs
  have h2 : F43 [outOf ls 0, outOf ls 1, outOf ls 2, outOf ls 3, outOf ls 4, outOf ls 5, outOf ls 6, outOf ls 7, outOf ls 8, outOf ls 9, outOf ls 10, outOf ls 11, outOf ls 12, outOf ls 13, outOf ls 14, outOf ls 15, outOf ls 16, outOf ls 17, outOf ls 18, outOf ls 19, outOf ls 20, outOf ls 21, outOf ls 22, outOf ls 23, outOf ls 24] = F43 ls := by
    unfold F43
    simp only [show CcOk (outOf [outOf ls 0, outOf ls 1, outOf ls 2, outOf ls 3, outOf ls 4, outOf ls 5, outOf ls 6, outOf ls 7, outOf ls 8, outOf ls 9, outOf ls 10, outOf ls 11, outOf ls 12, outOf ls 13, outOf ls 14, outOf ls 15, outOf ls 16, outOf ls 17, outOf ls 18, outOf ls 19, outOf ls 20, outOf ls 21, outOf ls 22, outOf ls 23, outOf ls 24]) ↔ CcOk (outOf ls) from Iff.rfl, outOf_z, outOf_s]
    unfold l22 restC
    simp only [outOf_z, outOf_s]
    split
    · split
      · split <;> rfl
      · rfl
    · rfl
  rw [h2]
  clear h2
  simp only [F42, F11, outOf_z, LV.Bb, implies_true, true_implies, true_and, and_true]
  refine ⟨hs, ?_⟩
  by_cases hok : CcOk (outOf ls)
  case neg =>
    have e : F43 ls = z22 ++ [.i 230] := by unfold F43; rw [if_neg hok]
    rw [e, if_pos (by rw [out22zb _ (by omega)]; simp [tf_d, outOf])]
    trivial
  by_cases hb : (TimeI (outOf ls 22).I ∧ TimeI (outOf ls 23).I) ∧ SizeI (outOf ls 24).I
  case neg =>
    have e : F43 ls = z22 ++ [.i 2] := by unfold F43; rw [if_pos hok, if_neg hb]
    rw [e, if_pos (by rw [out22zb _ (by omega)]; simp [tf_d, outOf])]
    trivial
  have e : F43 ls = l22 (restC (outOf ls) (outOf ls 22).I (outOf ls 23).I (outOf ls 24).I) ++ [.i 0] := by unfold F43; rw [if_pos hok, if_pos hb]
  obtain ⟨g1, g2, g3, g4, g5⟩ := rest_ok (idle := (outOf ls 22).I) (rto := (outOf ls 23).I) hok hb.2
  have hcb := cc_bounds hok
  rw [e] at h1 ⊢
  generalize restC (outOf ls) (outOf ls 22).I (outOf ls 23).I (outOf ls 24).I = g at *
  simp only [out22, out22b, setE_lt, setE_hit, Nat.reduceLT, Nat.reduceLeDiff, Nat.reduceAdd, Nat.reduceSub, outOf_z, outOf_s, LV.Ii]
  simp only [ccok22 g, if_pos g1]
  have w2 : IntKind.i64.wrap (2 * (outOf ls 1).I) = 2 * (outOf ls 1).I := wrap_i64 (by omega) (by omega)
  rw [if_neg (by simp [tf_d])]
  have h1' : (g 11).L.length ≤ 9223372036854775807 := by
    unfold Short at h1
    rw [out22 g _ (by omega)] at h1
    exact h1
  refine ⟨fun _ => R53_ok g h1', ?_⟩
  rw [w2]
  simp only [Bool.or_eq_true, Bool.and_eq_true, Bool.not_eq_true', tf_t, tf_f, Bool.or_eq_false_iff, Bool.and_eq_false_iff, and_true]
  exact ⟨⟨⟨g2, g3⟩, g4⟩, g5⟩
end Go.Proofs.Ythhnnfmfeofknaa.Sy
namespace Go.Proofs.Ythhnnfmfeofknaa
open Go.ChangeShapes Go.WideShapes Go.ChangeAt Go.RowKit
theorem ccRestLess_own : ownKnob Try.prog.godebug = none := by kernel_rfl
theorem ccRestLess_laidOut : laidOutB Try.prog = true := by kernel_rfl
set_option maxRecDepth 100000 in
theorem ccRestLess_lifted (os : Os) (started : os.Started) (H : Type) (enc : TypeId × Value → H) :
    ReturnsInHanded {} Try.checked os 11 .any (Rows.ccRestLessSpec.pre6 enc Try.prog Try.f11 Rows.ccRestLessRow.domain false) (Rows.ccRestLessSpec.post enc Try.prog Try.f11 false true false false) := by
  refine returnsInHanded_of_change (C := Try.checked) ccRestLess_own started (by kernel_rfl) Try.func11
    (ChangeSpec.witness6 (enc := enc) (C := Try.checked) false ⟨#[], #[.agg #[.int .i64 0, .int .i64 0, .int .i64 0, .int .i64 0, .int .i64 0, .int .i64 0, .int .i64 0, .int .i64 0, .int .i64 0, .int .i64 0, .int .i64 0, .slice none 0 0, .int .i64 0, .int .i64 0, .int .i64 0, .int .i64 0, .int .i64 0, .int .i64 0, .int .i64 0, .int .i64 0, .int .i64 0, .int .i64 0], .int .i64 0, .int .i64 0, .int .i64 0], []⟩ 8 (by kernel_rfl) (by kernel_rfl) (by kernel_rfl) (by kernel_rfl)) ?_
  intro W base args ds gs before hval0 hW hcnd _
  refine Sy.law_calls (b := 4) (s := Rows.ccRestLessSpec) (Sy.k11.to (Φ := fun _ => Sy.F11) (Pr := fun _ => Sy.R11) rfl rfl) ccRestLess_laidOut (by kernel_rfl) (by kernel_rfl) (by kernel_rfl) rfl ?_ (fun ls hf => ⟨hf, rfl⟩) hval0 hW
  intro ds hd
  have hd : ds.length = 4 := hd
  rcases ds with _ | ⟨d0, ds⟩
  · simp at hd
  rcases ds with _ | ⟨d1, ds⟩
  · simp at hd
  rcases ds with _ | ⟨d2, ds⟩
  · simp at hd
  rcases ds with _ | ⟨d3, ds⟩
  · simp at hd
  rcases ds with _ | ⟨d, ds⟩
  · rfl
  · simp at hd
theorem ccRestLess_holds : Rows.CcRestLessSaid :=
  OpenClaim.holds_of_wide 11 Try.f11 rfl rfl rfl rfl rfl rfl rfl ⟨rfl, rfl, rfl, rfl, rfl⟩ rfl rfl rfl rfl rfl (by kernel_rfl) Try.func11 (by kernel_rfl)
    (of_decide_eq_true (by kernel_rfl)) (by unfold Func.isWrapper; first | (rw [if_pos (by decide +kernel)]; kernel_rfl) | (rw [if_neg (by decide +kernel)]; exact ⟨rfl, rfl⟩))
    (fun os started H enc _ => ccRestLess_lifted os started H enc)
#print axioms ccRestLess_holds
end Go.Proofs.Ythhnnfmfeofknaa

