/-
  cubic: growth. The program's and the reference's are the same numbers.
-/
import Derived.Test.YthhnnfmfeofknaaCj
namespace Go.Proofs.Ythhnnfmfeofknaa.Sy
open Go Go.RowKit
set_option linter.unusedSimpArgs false
set_option linter.unusedVariables false

/-- The 22 fields of a controller, one behind the other. -/
def l22 (g : Nat → LV) : List LV := [g 0, g 1, g 2, g 3, g 4, g 5, g 6, g 7, g 8, g 9, g 10, g 11, g 12, g 13, g 14, g 15, g 16, g 17, g 18, g 19, g 20, g 21]
theorem out22 (g : Nat → LV) (r : List LV) {i : Nat} (h : i < 22) : outOf (l22 g ++ r) i = g i := by
  unfold l22 outOf
  rcases i with _ | _ | _ | _ | _ | _ | _ | _ | _ | _ | _ | _ | _ | _ | _ | _ | _ | _ | _ | _ | _ | _ | i
  · rfl
  · rfl
  · rfl
  · rfl
  · rfl
  · rfl
  · rfl
  · rfl
  · rfl
  · rfl
  · rfl
  · rfl
  · rfl
  · rfl
  · rfl
  · rfl
  · rfl
  · rfl
  · rfl
  · rfl
  · rfl
  · rfl
  · omega
theorem out22' (g : Nat → LV) {i : Nat} (h : i < 22) : outOf (l22 g) i = g i := by
  have := out22 g [] h
  rwa [List.append_nil] at this
theorem out22b (g : Nat → LV) (r : List LV) {i : Nat} (h : 22 ≤ i) : outOf (l22 g ++ r) i = outOf r (i - 22) := by
  unfold outOf
  rw [List.getD_eq_getElem?_getD, List.getD_eq_getElem?_getD, List.getElem?_append_right h]
  rfl
theorem cok22 (ρ : Nat → LV) : CubicOk (outOf [ρ 0, ρ 1, ρ 2, ρ 3, ρ 4, ρ 5, ρ 6, ρ 7, ρ 8, ρ 9, ρ 10, ρ 11, ρ 12, ρ 13, ρ 14, ρ 15, ρ 16, ρ 17, ρ 18, ρ 19, ρ 20, ρ 21]) ↔ CubicOk ρ := Iff.rfl
theorem cok23 (ρ : Nat → LV) (x : LV) : CubicOk (outOf [ρ 0, ρ 1, ρ 2, ρ 3, ρ 4, ρ 5, ρ 6, ρ 7, ρ 8, ρ 9, ρ 10, ρ 11, ρ 12, ρ 13, ρ 14, ρ 15, ρ 16, ρ 17, ρ 18, ρ 19, ρ 20, ρ 21, x]) ↔ CubicOk ρ := Iff.rfl
theorem E28 (ρ : Nat → LV) (t : LV) (h : CubicOk ρ) : (outOf (F28 [ρ 0, ρ 1, ρ 2, ρ 3, ρ 4, ρ 5, ρ 6, ρ 7, ρ 8, ρ 9, ρ 10, ρ 11, ρ 12, ρ 13, ρ 14, ρ 15, ρ 16, ρ 17, ρ 18, ρ 19, ρ 20, ρ 21, t]) 0).I = curveI (ρ 1).I (ρ 5).I (ρ 7).I t.I := by
  simp only [F28, outOf_z, LV.Ii]
  rw [if_pos ((cok23 ρ t).2 h)]
  rfl
theorem R28_ok (ρ : Nat → LV) (t : LV) (h : In64 t.I) : R28 ([ρ 0, ρ 1, ρ 2, ρ 3, ρ 4, ρ 5, ρ 6, ρ 7, ρ 8, ρ 9, ρ 10, ρ 11, ρ 12, ρ 13, ρ 14, ρ 15, ρ 16, ρ 17, ρ 18, ρ 19, ρ 20, ρ 21, t]) := h
theorem clampI_range (x : Int) {l h : Int} (hl : l ≤ h) : l ≤ clampI x l h ∧ clampI x l h ≤ h := by unfold clampI; omega
theorem curveI_range (m w k t : Int) : 0 ≤ curveI m w k t ∧ curveI m w k t ≤ 1073741824 := clampI_range _ (by omega)
abbrev F29 := F28
abbrev R29 := R28

/-! tideway/tidewayref16.Curve -/
def s29 : Sig := ⟨29, 29, [.agg [I64, I64, I64, I64, I64, I64, I64, I64, I64, I64, I64, (.sl [(.int .i64), (.int .i64)]), I64, I64, I64, I64, I64, I64, I64, I64, I64, I64], .col I64], [.col I64]⟩
def t29 : Tr (List (Col × E)) :=
 (.item (.bind 27 [(.v 0), (.v 1), (.v 2), (.v 3), (.v 4), (.v 5), (.v 6), (.v 7), (.v 8), (.v 9), (.v 10), (.v 11), (.v 12), (.v 13), (.v 14), (.v 15), (.v 16), (.v 17), (.v 18), (.v 19), (.v 20), (.v 21)] 23 1)
 (.item (.pre (.kb true) 27 [(.v 0), (.v 1), (.v 2), (.v 3), (.v 4), (.v 5), (.v 6), (.v 7), (.v 8), (.v 9), (.v 10), (.v 11), (.v 12), (.v 13), (.v 14), (.v 15), (.v 16), (.v 17), (.v 18), (.v 19), (.v 20), (.v 21)])
 (.ite (.op1 .not (.op2 .eq (.v 23) (.ki (0))))
 (.leaf [(I64, (.ki (0)))])
 (.item (.bind 71 [(.v 22), (.op1 (.wrap .i64) (.op2 .sub (.ki (0)) (.v 7)))] 24 1)
 (.item (.bind 70 [(.v 24), (.ki (-1000000)), (.ki (1000000))] 25 1)
 (.item (.pre (.kb true) 71 [(.v 22), (.op1 (.wrap .i64) (.op2 .sub (.ki (0)) (.v 7)))])
 (.item (.pre (.kb true) 70 [(.v 24), (.ki (-1000000)), (.ki (1000000))])
 (.item (.bind 68 [(.op1 (.wrap .i64) (.op2 .mul (.op1 (.wrap .i64) (.op2 .mul (.op2 .mx (.v 25) (.op1 (.wrap .i64) (.op2 .sub (.ki (0)) (.v 25)))) (.op2 .mx (.v 25) (.op1 (.wrap .i64) (.op2 .sub (.ki (0)) (.v 25)))))) (.op2 .mx (.v 25) (.op1 (.wrap .i64) (.op2 .sub (.ki (0)) (.v 25)))))), (.op1 (.wrap .i64) (.op2 .mul (.ki (4)) (.v 1))), (.ki (10000000000))] 26 2)
 (.item (.pre (.kb true) 68 [(.op1 (.wrap .i64) (.op2 .mul (.op1 (.wrap .i64) (.op2 .mul (.op2 .mx (.v 25) (.op1 (.wrap .i64) (.op2 .sub (.ki (0)) (.v 25)))) (.op2 .mx (.v 25) (.op1 (.wrap .i64) (.op2 .sub (.ki (0)) (.v 25)))))) (.op2 .mx (.v 25) (.op1 (.wrap .i64) (.op2 .sub (.ki (0)) (.v 25)))))), (.op1 (.wrap .i64) (.op2 .mul (.ki (4)) (.v 1))), (.ki (10000000000))])
 (.ite (.op2 .le (.ki (0)) (.v 25))
  (.item (.bind 71 [(.v 5), (.v 26)] 28 1)
  (.item (.pre (.kb true) 71 [(.v 5), (.v 26)])
  (.item (.bind 70 [(.v 28), (.ki (0)), (.ki (1073741824))] 29 1)
  (.item (.pre (.kb true) 70 [(.v 28), (.ki (0)), (.ki (1073741824))])
  (.leaf [(I64, (.v 29))])))))
  (.item (.bind 70 [(.op1 (.wrap .i64) (.op2 .sub (.v 5) (.op2 .mn (.v 26) (.v 5)))), (.ki (0)), (.ki (1073741824))] 30 1)
  (.item (.pre (.kb true) 70 [(.op1 (.wrap .i64) (.op2 .sub (.v 5) (.op2 .mn (.v 26) (.v 5)))), (.ki (0)), (.ki (1073741824))])
  (.leaf [(I64, (.v 30))])))))))))))))
theorem c29 : compile Go.Proofs.Try.prog [s27, s68, s70, s71] Go.Proofs.Try.f29 s29.params s29.results = some t29 := by kernel_rfl
def L29 : List (Nat × (List LV → List LV)) := [(27, F27), (68, F68), (70, F70), (71, F71)]
def M29 : List (Nat × (List LV → Prop)) := [(68, R68)]
theorem h29 : ∀ sg, sg ∈ [s27, s68, s70, s71] → ConOk Go.Proofs.Try.prog (ap L29) (apR M29) sg := by
  intro sg h
  simp only [List.mem_cons, List.not_mem_nil, or_false] at h
  rcases h with rfl | rfl | rfl | rfl
  · exact k27.to rfl rfl
  · exact k68.to rfl rfl
  · exact k70.to rfl rfl
  · exact k71.to rfl rfl
set_option maxRecDepth 100000 in
theorem k29 : Kon Go.Proofs.Try.prog s29 F29 R29 := by
  refine con_ok h29 (by kernel_rfl) Go.Proofs.Try.func29 (by kernel_rfl) c29 ?_
  intro ls _ hr
  simp only [F29, R29, F28, R28, outOf_z, LV.Ii] at hr ⊢
  simp only [t29, Tr.den, L29, M29, ap, apR, if_true, Nat.reduceEqDiff, if_false, List.map_cons, List.map_nil, E.den, O1.ev, ev_add, ev_sub, ev_mul, ev_quo, ev_rem, ev_mx, ev_mn, ev_shl, ev_shr, ev_bit, ev_lt, ev_le, ev_eq, ev_and, ev_or, ev_eqb, ev_cat, ev_rcons, ev_rd, SameL, Col.same]
  simp only [setE_lt, setE_hit, Nat.reduceLT, Nat.reduceLeDiff, Nat.reduceAdd, Nat.reduceSub]
  simp only [E26]
  simp only [cok22 (outOf ls)]
  by_cases hok : CubicOk (outOf ls)
  case neg =>
    simp only [if_neg hok, LV.Ii, LV.Bb, LV.Ll]
    refine ⟨fun _ => trivial, ?_⟩
    rw [if_pos (by simp [tf_d])]
    simp only [outOf_z, LV.Ii, and_self]
  simp only [if_pos hok]
  obtain ⟨hk0, ⟨hm1, hm2, _⟩, ⟨⟨hw1, hw2⟩, _⟩, ⟨hk1, hk2, _⟩, _⟩ := hok
  simp only [LV.Ii, LV.Bb, LV.Ll]
  rw [if_neg (by simp [tf_d])]
  have wk : IntKind.i64.wrap (0 - (outOf ls 7).I) = -(outOf ls 7).I := by rw [wrap_i64 (by omega) (by omega)]; omega
  simp only [wk]
  simp only [E70, LV.Ii, implies_true, true_and]
  rw [E71 _ _ hr (by simp only [LV.Ii]; omega)]
  simp only [LV.Ii]
  have hd : clampI (sat ((outOf ls 22).I + -(outOf ls 7).I)) (-1000000) 1000000 = clampI ((outOf ls 22).I - (outOf ls 7).I) (-1000000) 1000000 := by unfold clampI sat; omega
  have hdr : -1000000 ≤ clampI ((outOf ls 22).I - (outOf ls 7).I) (-1000000) 1000000 ∧ clampI ((outOf ls 22).I - (outOf ls 7).I) (-1000000) 1000000 ≤ 1000000 := by unfold clampI; omega
  simp only [hd, curveI]
  generalize clampI ((outOf ls 22).I - (outOf ls 7).I) (-1000000) 1000000 = d at *
  have wd : IntKind.i64.wrap (0 - d) = -d := by rw [wrap_i64 (by omega) (by omega)]; omega
  simp only [wd]
  obtain ⟨a, ha⟩ : ∃ a, max d (-d) = a := ⟨_, rfl⟩
  simp only [ha]
  have ha0 : 0 ≤ a ∧ a ≤ 1000000 := by omega
  obtain ⟨⟨q1, q2⟩, q3, q4⟩ := cubes ha0.1 ha0.2
  have wm : IntKind.i64.wrap (4 * (outOf ls 1).I) = 4 * (outOf ls 1).I := wrap_i64 (by omega) (by omega)
  rw [wrap_i64 (n := a * a) (by omega) (by omega), wrap_i64 (n := a * a * a) (by omega) (by omega), wm]
  refine ⟨fun _ => R90_ok _ _ _ (by simp only [LV.Ii]; omega) (by simp only [LV.Ii]; omega) (by simp only [LV.Ii]; omega), ?_⟩
  have e68 := E90 (.i (a * a * a)) (.i (4 * (outOf ls 1).I)) (.i 10000000000) (by simp only [LV.Ii]; omega) (by simp only [LV.Ii]; omega) (by simp only [LV.Ii]; omega)
  simp only [LV.Ii] at e68
  have hv := mulDiv_nonneg (a := a * a * a) (b := 4 * (outOf ls 1).I) (c := 10000000000) (by omega) (by omega) (by omega)
  simp only [F68]
  generalize outOf (F90 [.i (a * a * a), .i (4 * (outOf ls 1).I), .i 10000000000]) 0 = y at *
  rw [e68]
  unfold mulDiv at e68 ⊢
  generalize a * a * a * (4 * (outOf ls 1).I) / 10000000000 = v at *
  by_cases hdn : 0 ≤ d
  · rw [if_pos ((tf_t _).mpr hdn), if_neg (show ¬ d < 0 by omega)]
    rw [E71 _ _ (by omega) (by rw [e68]; omega)]
    simp only [LV.Ii, outOf_z, and_true]
    rw [e68]
    unfold clampI sat
    omega
  · rw [if_neg (fun h => hdn ((tf_t _).mp h)), if_pos (show d < 0 by omega)]
    rw [wrap_i64 (by omega) (by omega)]
    simp only [LV.Ii, outOf_z, and_true]
    unfold clampI
    omega
/-! ### An epoch begins -/
def begun (f : Nat → LV) (now : LV) : Nat → LV := fun i =>
  if i = 5 then (if (f 2).I < (f 5).I then f 5 else f 2) else if i = 6 then now else if i = 7 then .i (if (f 2).I < (f 5).I then cbrtGo (mulDiv ((f 5).I - (f 2).I) 10000000000 (4 * (f 1).I)) 21 0 else 0) else if i = 8 then f 2 else if i = 9 then f 2 else f i
def F107 (ls : List LV) : List LV := l22 (begun (outOf ls) (outOf ls 22))
def R107 (ls : List LV) : Prop := (1 ≤ (outOf ls 1).I ∧ (outOf ls 1).I ≤ 65000) ∧ (0 ≤ (outOf ls 2).I ∧ (outOf ls 2).I ≤ 1073741824) ∧ 0 ≤ (outOf ls 5).I ∧ (outOf ls 5).I ≤ 1073741824
theorem E124 (x : LV) : (outOf (F124 [x]) 0).I = cbrtGo x.I 21 0 := by simp only [F124, outOf_z, LV.Ii]
theorem E69 (x : LV) : (outOf (F69 [x]) 0).I = cbrtGo x.I 21 0 := by simp only [F69, outOf_z, LV.Ii]

/-! (*tideway/cubic.ctl).begin -/
def s107 : Sig := ⟨107, 107, [.ptr true [I64, I64, I64, I64, I64, I64, I64, I64, I64, I64, I64, (.sl [(.int .i64), (.int .i64)]), I64, I64, I64, I64, I64, I64, I64, I64, I64, I64], .col I64], []⟩
def t107 : Tr (List (Col × E)) :=
 (.ite (.op2 .lt (.v 2) (.v 5))
 (.item (.bind 77 [(.op1 (.wrap .i64) (.op2 .sub (.v 5) (.v 2))), (.ki (10000000000)), (.op1 (.wrap .i64) (.op2 .mul (.ki (4)) (.v 1)))] 23 1)
 (.item (.bind 124 [(.v 23)] 24 1)
 (.item (.pre (.kb true) 77 [(.op1 (.wrap .i64) (.op2 .sub (.v 5) (.v 2))), (.ki (10000000000)), (.op1 (.wrap .i64) (.op2 .mul (.ki (4)) (.v 1)))])
 (.item (.pre (.kb true) 124 [(.v 23)])
 (.leaf [(I64, (.v 0)), (I64, (.v 1)), (I64, (.v 2)), (I64, (.v 3)), (I64, (.v 4)), (I64, (.v 5)), (I64, (.v 22)), (I64, (.v 24)), (I64, (.v 2)), (I64, (.v 2)), (I64, (.v 10)), ((.sl [(.int .i64), (.int .i64)]), (.v 11)), (I64, (.v 12)), (I64, (.v 13)), (I64, (.v 14)), (I64, (.v 15)), (I64, (.v 16)), (I64, (.v 17)), (I64, (.v 18)), (I64, (.v 19)), (I64, (.v 20)), (I64, (.v 21))])))))
 (.leaf [(I64, (.v 0)), (I64, (.v 1)), (I64, (.v 2)), (I64, (.v 3)), (I64, (.v 4)), (I64, (.v 2)), (I64, (.v 22)), (I64, (.ki (0))), (I64, (.v 2)), (I64, (.v 2)), (I64, (.v 10)), ((.sl [(.int .i64), (.int .i64)]), (.v 11)), (I64, (.v 12)), (I64, (.v 13)), (I64, (.v 14)), (I64, (.v 15)), (I64, (.v 16)), (I64, (.v 17)), (I64, (.v 18)), (I64, (.v 19)), (I64, (.v 20)), (I64, (.v 21))]))
theorem c107 : compile Go.Proofs.Try.prog [s77, s124] Go.Proofs.Try.f107 s107.params s107.results = some t107 := by kernel_rfl
def L107 : List (Nat × (List LV → List LV)) := [(77, F77), (124, F124)]
def M107 : List (Nat × (List LV → Prop)) := [(77, R77)]
theorem h107 : ∀ sg, sg ∈ [s77, s124] → ConOk Go.Proofs.Try.prog (ap L107) (apR M107) sg := by
  intro sg h
  simp only [List.mem_cons, List.not_mem_nil, or_false] at h
  rcases h with rfl | rfl
  · exact k77.to rfl rfl
  · exact k124.to rfl rfl
set_option maxRecDepth 100000 in
theorem k107 : Kon Go.Proofs.Try.prog s107 F107 R107 := by
  refine con_ok h107 (by kernel_rfl) Go.Proofs.Try.func107 (by kernel_rfl) c107 ?_
  intro ls _ hr
  simp only [F107, R107] at hr ⊢
  obtain ⟨hm, hc, hw⟩ := hr
  simp only [t107, Tr.den, L107, M107, ap, apR, if_true, Nat.reduceEqDiff, if_false, List.map_cons, List.map_nil, E.den, O1.ev, ev_add, ev_sub, ev_mul, ev_quo, ev_rem, ev_mx, ev_mn, ev_shl, ev_shr, ev_bit, ev_lt, ev_le, ev_eq, ev_and, ev_or, ev_eqb, ev_cat, ev_rcons, ev_rd, SameL, Col.same]
  simp only [setE_lt, setE_hit, Nat.reduceLT, Nat.reduceLeDiff, Nat.reduceAdd, Nat.reduceSub]
  simp only [LV.Ii, LV.Bb, LV.Ll]
  have wm : IntKind.i64.wrap (4 * (outOf ls 1).I) = 4 * (outOf ls 1).I := wrap_i64 (by omega) (by omega)
  have wd : IntKind.i64.wrap ((outOf ls 5).I - (outOf ls 2).I) = (outOf ls 5).I - (outOf ls 2).I := wrap_i64 (by omega) (by omega)
  simp only [wm, wd]
  by_cases h : (outOf ls 2).I < (outOf ls 5).I
  · rw [if_pos ((tf_t _).mpr h)]
    refine ⟨fun _ => R90_ok _ _ _ (by simp only [LV.Ii]; omega) (by simp only [LV.Ii]; omega) (by simp only [LV.Ii]; omega), fun _ => trivial, ?_⟩
    rw [E124, E77 _ _ _ (by simp only [LV.Ii]; omega) (by simp only [LV.Ii]; omega) (by simp only [LV.Ii]; omega)]
    simp only [out22', Nat.reduceLT, begun, Nat.reduceEqDiff, if_true, if_false, if_pos h, LV.Ii, and_true]
  · rw [if_neg (fun h' => h ((tf_t _).mp h'))]
    simp only [out22', Nat.reduceLT, begun, Nat.reduceEqDiff, if_true, if_false, if_neg h, LV.Ii, and_true]
theorem E107 (ρ : Nat → LV) (now : LV) : F107 [ρ 0, ρ 1, ρ 2, ρ 3, ρ 4, ρ 5, ρ 6, ρ 7, ρ 8, ρ 9, ρ 10, ρ 11, ρ 12, ρ 13, ρ 14, ρ 15, ρ 16, ρ 17, ρ 18, ρ 19, ρ 20, ρ 21, now] = l22 (begun ρ now) := rfl
theorem begun_ok {f : Nat → LV} {now : LV} (h : CubicOk f) (hn : 0 ≤ now.I ∧ now.I ≤ 1125899906842624) : CubicOk (begun f now) := by
  have hr := cbrtGo_root (mulDiv ((f 5).I - (f 2).I) 10000000000 (4 * (f 1).I))
  have hl := hr.lo
  have hh := hr.hi
  unfold CubicOk Common NoBbr at *
  simp only [begun, Nat.reduceEqDiff, if_true, if_false]
  simp only [LV.Ii]
  generalize cbrtGo (mulDiv ((f 5).I - (f 2).I) 10000000000 (4 * (f 1).I)) 21 0 = r at *
  split <;> omega
/-! ### The window grows -/
def grown (g : Nat → LV) (n now srtt : Int) : Nat → LV := fun i =>
  if i = 2 then .i (min 1073741824 (max (min 1073741824 ((g 8).I + 529 * (g 1).I * n / (1000 * (g 2).I))) ((g 2).I + (clampI (curveI (g 1).I (g 5).I (g 7).I ((max 0 (now - (g 6).I) + srtt) / 1000)) (g 2).I ((g 2).I + (g 2).I / 2) - (g 2).I) * n / (g 2).I)))
  else if i = 8 then .i (min 1073741824 ((g 8).I + 529 * (g 1).I * n / (1000 * (g 2).I))) else g i
def begun' (f : Nat → LV) (now : LV) : Nat → LV := if (f 6).I < 0 then begun f now else f
def F65 (ls : List LV) : List LV := l22 (grown (begun' (outOf ls) (outOf ls 23)) (outOf ls 22).I (outOf ls 23).I (outOf ls 24).I)
def R65 (ls : List LV) : Prop := CubicOk (outOf ls) ∧ (0 ≤ (outOf ls 22).I ∧ (outOf ls 22).I ≤ 1073741824) ∧ (0 ≤ (outOf ls 23).I ∧ (outOf ls 23).I ≤ 1125899906842624) ∧ 0 ≤ (outOf ls 24).I ∧ (outOf ls 24).I ≤ 1125899906842624
theorem prodI {a b A B : Int} (ha : 0 ≤ a) (hb : 0 ≤ b) (h1 : a ≤ A) (h2 : b ≤ B) : 0 ≤ a * b ∧ a * b ≤ A * B := ⟨Int.mul_nonneg ha hb, Int.mul_le_mul h1 h2 hb (by omega)⟩
/-- The steps of the growth, each on numbers. -/
theorem grow_facts {g : Nat → LV} {n now srtt : Int} (h : CubicOk g) (hn : 0 ≤ n ∧ n ≤ 1073741824) (hnow : 0 ≤ now ∧ now ≤ 1125899906842624) (hs : 0 ≤ srtt ∧ srtt ≤ 1125899906842624) :
    (IntKind.i64.wrap ((IntKind.i64.wrap (max 0 (IntKind.i64.wrap (now - (g 6).I)) + srtt)).tdiv 1000) = (max 0 (now - (g 6).I) + srtt) / 1000 ∧ In64 ((max 0 (now - (g 6).I) + srtt) / 1000)) ∧
    IntKind.i64.wrap ((g 2).I + IntKind.i64.wrap ((g 2).I.tdiv 2)) = (g 2).I + (g 2).I / 2 ∧ IntKind.i64.wrap (529 * (g 1).I) = 529 * (g 1).I ∧ IntKind.i64.wrap (1000 * (g 2).I) = 1000 * (g 2).I ∧ (1 ≤ (g 2).I ∧ (g 2).I ≤ 1073741824) ∧ (1 ≤ (g 1).I ∧ (g 1).I ≤ 65000) ∧ 0 ≤ (g 8).I ∧ (g 8).I ≤ 1073741824 := by
  unfold CubicOk Common NoBbr at h
  have e1 : IntKind.i64.wrap (now - (g 6).I) = now - (g 6).I := wrap_i64 (by omega) (by omega)
  rw [e1, wrap_i64 (n := max 0 (now - (g 6).I) + srtt) (by omega) (by omega), Int.tdiv_eq_ediv_of_nonneg (by omega), Int.tdiv_eq_ediv_of_nonneg (by omega), wrap_i64 (n := (max 0 (now - (g 6).I) + srtt) / 1000) (by omega) (by omega),
    wrap_i64 (n := (g 2).I / 2) (by omega) (by omega), wrap_i64 (n := (g 2).I + (g 2).I / 2) (by omega) (by omega), wrap_i64 (n := 529 * (g 1).I) (by omega) (by omega), wrap_i64 (n := 1000 * (g 2).I) (by omega) (by omega)]
  omega

/-! (*tideway/cubic.ctl).grow -/
def s65 : Sig := ⟨65, 65, [.ptr true [I64, I64, I64, I64, I64, I64, I64, I64, I64, I64, I64, (.sl [(.int .i64), (.int .i64)]), I64, I64, I64, I64, I64, I64, I64, I64, I64, I64], .col I64, .col I64, .col I64], []⟩
def t65 : Tr (List (Col × E)) :=
 (.ite (.op2 .lt (.v 6) (.ki (0)))
 (.item (.bind 107 [(.v 0), (.v 1), (.v 2), (.v 3), (.v 4), (.v 5), (.v 6), (.v 7), (.v 8), (.v 9), (.v 10), (.v 11), (.v 12), (.v 13), (.v 14), (.v 15), (.v 16), (.v 17), (.v 18), (.v 19), (.v 20), (.v 21), (.v 23)] 25 22)
 (.item (.pre (.kb true) 107 [(.v 0), (.v 1), (.v 2), (.v 3), (.v 4), (.v 5), (.v 6), (.v 7), (.v 8), (.v 9), (.v 10), (.v 11), (.v 12), (.v 13), (.v 14), (.v 15), (.v 16), (.v 17), (.v 18), (.v 19), (.v 20), (.v 21), (.v 23)])
 (.item (.bind 28 [(.v 25), (.v 26), (.v 27), (.v 28), (.v 29), (.v 30), (.v 31), (.v 32), (.v 33), (.v 34), (.v 35), (.v 36), (.v 37), (.v 38), (.v 39), (.v 40), (.v 41), (.v 42), (.v 43), (.v 44), (.v 45), (.v 46), (.op1 (.wrap .i64) (.op2 .quo (.op1 (.wrap .i64) (.op2 .add (.op2 .mx (.ki (0)) (.op1 (.wrap .i64) (.op2 .sub (.v 23) (.v 31)))) (.v 24))) (.ki (1000))))] 47 1)
 (.item (.bind 75 [(.v 47), (.v 27), (.op1 (.wrap .i64) (.op2 .add (.v 27) (.op1 (.wrap .i64) (.op2 .quo (.v 27) (.ki (2))))))] 48 1)
 (.item (.pre (.kb true) 28 [(.v 25), (.v 26), (.v 27), (.v 28), (.v 29), (.v 30), (.v 31), (.v 32), (.v 33), (.v 34), (.v 35), (.v 36), (.v 37), (.v 38), (.v 39), (.v 40), (.v 41), (.v 42), (.v 43), (.v 44), (.v 45), (.v 46), (.op1 (.wrap .i64) (.op2 .quo (.op1 (.wrap .i64) (.op2 .add (.op2 .mx (.ki (0)) (.op1 (.wrap .i64) (.op2 .sub (.v 23) (.v 31)))) (.v 24))) (.ki (1000))))])
 (.item (.pre (.kb true) 75 [(.v 47), (.v 27), (.op1 (.wrap .i64) (.op2 .add (.v 27) (.op1 (.wrap .i64) (.op2 .quo (.v 27) (.ki (2))))))])
 (.item (.bind 77 [(.op1 (.wrap .i64) (.op2 .mul (.ki (529)) (.v 26))), (.v 22), (.op1 (.wrap .i64) (.op2 .mul (.ki (1000)) (.v 27)))] 49 1)
 (.item (.bind 76 [(.v 33), (.v 49)] 50 1)
 (.item (.pre (.kb true) 77 [(.op1 (.wrap .i64) (.op2 .mul (.ki (529)) (.v 26))), (.v 22), (.op1 (.wrap .i64) (.op2 .mul (.ki (1000)) (.v 27)))])
 (.item (.pre (.kb true) 76 [(.v 33), (.v 49)])
 (.item (.bind 77 [(.op1 (.wrap .i64) (.op2 .sub (.v 48) (.v 27))), (.v 22), (.v 27)] 51 1)
 (.item (.bind 76 [(.v 27), (.v 51)] 52 1)
 (.item (.pre (.kb true) 77 [(.op1 (.wrap .i64) (.op2 .sub (.v 48) (.v 27))), (.v 22), (.v 27)])
 (.item (.pre (.kb true) 76 [(.v 27), (.v 51)])
 (.leaf [(I64, (.v 25)), (I64, (.v 26)), (I64, (.op2 .mn (.ki (1073741824)) (.op2 .mx (.op2 .mn (.ki (1073741824)) (.v 50)) (.v 52)))), (I64, (.v 28)), (I64, (.v 29)), (I64, (.v 30)), (I64, (.v 31)), (I64, (.v 32)), (I64, (.op2 .mn (.ki (1073741824)) (.v 50))), (I64, (.v 34)), (I64, (.v 35)), ((.sl [(.int .i64), (.int .i64)]), (.v 36)), (I64, (.v 37)), (I64, (.v 38)), (I64, (.v 39)), (I64, (.v 40)), (I64, (.v 41)), (I64, (.v 42)), (I64, (.v 43)), (I64, (.v 44)), (I64, (.v 45)), (I64, (.v 46))])))))))))))))))
 (.item (.bind 28 [(.v 0), (.v 1), (.v 2), (.v 3), (.v 4), (.v 5), (.v 6), (.v 7), (.v 8), (.v 9), (.v 10), (.v 11), (.v 12), (.v 13), (.v 14), (.v 15), (.v 16), (.v 17), (.v 18), (.v 19), (.v 20), (.v 21), (.op1 (.wrap .i64) (.op2 .quo (.op1 (.wrap .i64) (.op2 .add (.op2 .mx (.ki (0)) (.op1 (.wrap .i64) (.op2 .sub (.v 23) (.v 6)))) (.v 24))) (.ki (1000))))] 53 1)
 (.item (.bind 75 [(.v 53), (.v 2), (.op1 (.wrap .i64) (.op2 .add (.v 2) (.op1 (.wrap .i64) (.op2 .quo (.v 2) (.ki (2))))))] 54 1)
 (.item (.pre (.kb true) 28 [(.v 0), (.v 1), (.v 2), (.v 3), (.v 4), (.v 5), (.v 6), (.v 7), (.v 8), (.v 9), (.v 10), (.v 11), (.v 12), (.v 13), (.v 14), (.v 15), (.v 16), (.v 17), (.v 18), (.v 19), (.v 20), (.v 21), (.op1 (.wrap .i64) (.op2 .quo (.op1 (.wrap .i64) (.op2 .add (.op2 .mx (.ki (0)) (.op1 (.wrap .i64) (.op2 .sub (.v 23) (.v 6)))) (.v 24))) (.ki (1000))))])
 (.item (.pre (.kb true) 75 [(.v 53), (.v 2), (.op1 (.wrap .i64) (.op2 .add (.v 2) (.op1 (.wrap .i64) (.op2 .quo (.v 2) (.ki (2))))))])
 (.item (.bind 77 [(.op1 (.wrap .i64) (.op2 .mul (.ki (529)) (.v 1))), (.v 22), (.op1 (.wrap .i64) (.op2 .mul (.ki (1000)) (.v 2)))] 55 1)
 (.item (.bind 76 [(.v 8), (.v 55)] 56 1)
 (.item (.pre (.kb true) 77 [(.op1 (.wrap .i64) (.op2 .mul (.ki (529)) (.v 1))), (.v 22), (.op1 (.wrap .i64) (.op2 .mul (.ki (1000)) (.v 2)))])
 (.item (.pre (.kb true) 76 [(.v 8), (.v 55)])
 (.item (.bind 77 [(.op1 (.wrap .i64) (.op2 .sub (.v 54) (.v 2))), (.v 22), (.v 2)] 57 1)
 (.item (.bind 76 [(.v 2), (.v 57)] 58 1)
 (.item (.pre (.kb true) 77 [(.op1 (.wrap .i64) (.op2 .sub (.v 54) (.v 2))), (.v 22), (.v 2)])
 (.item (.pre (.kb true) 76 [(.v 2), (.v 57)])
 (.leaf [(I64, (.v 0)), (I64, (.v 1)), (I64, (.op2 .mn (.ki (1073741824)) (.op2 .mx (.op2 .mn (.ki (1073741824)) (.v 56)) (.v 58)))), (I64, (.v 3)), (I64, (.v 4)), (I64, (.v 5)), (I64, (.v 6)), (I64, (.v 7)), (I64, (.op2 .mn (.ki (1073741824)) (.v 56))), (I64, (.v 9)), (I64, (.v 10)), ((.sl [(.int .i64), (.int .i64)]), (.v 11)), (I64, (.v 12)), (I64, (.v 13)), (I64, (.v 14)), (I64, (.v 15)), (I64, (.v 16)), (I64, (.v 17)), (I64, (.v 18)), (I64, (.v 19)), (I64, (.v 20)), (I64, (.v 21))]))))))))))))))
theorem c65 : compile Go.Proofs.Try.prog [s28, s75, s76, s77, s107] Go.Proofs.Try.f65 s65.params s65.results = some t65 := by kernel_rfl
def L65 : List (Nat × (List LV → List LV)) := [(28, F28), (75, F75), (76, F76), (77, F77), (107, F107)]
def M65 : List (Nat × (List LV → Prop)) := [(28, R28), (77, R77), (107, R107)]
theorem h65 : ∀ sg, sg ∈ [s28, s75, s76, s77, s107] → ConOk Go.Proofs.Try.prog (ap L65) (apR M65) sg := by
  intro sg h
  simp only [List.mem_cons, List.not_mem_nil, or_false] at h
  rcases h with rfl | rfl | rfl | rfl | rfl
  · exact k28.to rfl rfl
  · exact k75.to rfl rfl
  · exact k76.to rfl rfl
  · exact k77.to rfl rfl
  · exact k107.to rfl rfl
set_option maxRecDepth 100000 in
theorem k65 : Kon Go.Proofs.Try.prog s65 F65 R65 := by
  refine con_ok h65 (by kernel_rfl) Go.Proofs.Try.func65 (by kernel_rfl) c65 ?_
  intro ls _ hr
  simp only [F65, R65] at hr ⊢
  obtain ⟨hok, hn, hnow, hs⟩ := hr
  simp only [t65, Tr.den, L65, M65, ap, apR, if_true, Nat.reduceEqDiff, if_false, List.map_cons, List.map_nil, E.den, O1.ev, ev_add, ev_sub, ev_mul, ev_quo, ev_rem, ev_mx, ev_mn, ev_shl, ev_shr, ev_bit, ev_lt, ev_le, ev_eq, ev_and, ev_or, ev_eqb, ev_cat, ev_rcons, ev_rd, SameL, Col.same]
  simp only [setE_lt, setE_hit, Nat.reduceLT, Nat.reduceLeDiff, Nat.reduceAdd, Nat.reduceSub]
  simp only [E107 (outOf ls) (outOf ls 23)]
  simp only [out22', Nat.reduceLT]
  simp only [LV.Ii, LV.Bb, LV.Ll]
  by_cases he : (outOf ls 6).I < 0
  · rw [if_pos ((tf_t _).mpr he)]
    have hg : CubicOk (begun (outOf ls) (outOf ls 23)) := begun_ok hok hnow
    simp only [begun', if_pos he]
    generalize begun (outOf ls) (outOf ls 23) = g at *
    obtain ⟨⟨wt, ht⟩, w1, w2, w3, hc, hm, hw⟩ := grow_facts (g := g) hg hn hnow hs
    have e28 := fun t => E28 (g) t hg
    simp only [wt, w1, w2, w3, true_implies, implies_true, true_and, e28, E75, LV.Ii, grown, Nat.reduceEqDiff, if_true, if_false, and_true]
    have hwr := clampI_range (curveI ((g) 1).I ((g) 5).I ((g) 7).I ((max 0 ((outOf ls 23).I - ((g) 6).I) + (outOf ls 24).I) / 1000)) (l := ((g) 2).I) (h := ((g) 2).I + ((g) 2).I / 2) (by omega)
    refine ⟨⟨by unfold CubicOk Common at hok; simp only [outOf_z, outOf_s]; omega, by unfold CubicOk Common at hok; simp only [outOf_z, outOf_s]; omega, by unfold CubicOk Common at hok; simp only [outOf_z, outOf_s]; omega⟩, R28_ok g _ ht, R90_ok _ _ _ (by simp only [LV.Ii]; omega) (by omega) (by simp only [LV.Ii]; omega), ?_⟩
    generalize clampI (curveI ((g) 1).I ((g) 5).I ((g) 7).I ((max 0 ((outOf ls 23).I - ((g) 6).I) + (outOf ls 24).I) / 1000)) ((g) 2).I (((g) 2).I + ((g) 2).I / 2) = wi at *
    have w4 : IntKind.i64.wrap (wi - ((g) 2).I) = wi - ((g) 2).I := wrap_i64 (by omega) (by omega)
    simp only [w4]
    have ea := E77 (.i (529 * ((g) 1).I)) (outOf ls 22) (.i (1000 * ((g) 2).I)) (by simp only [LV.Ii]; omega) (by omega) (by simp only [LV.Ii]; omega)
    have eb := E77 (.i (wi - ((g) 2).I)) (outOf ls 22) ((g) 2) (by simp only [LV.Ii]; omega) (by omega) (by omega)
    have na := mulDiv_nonneg (a := 529 * ((g) 1).I) (b := (outOf ls 22).I) (c := 1000 * ((g) 2).I) (by omega) (by omega) (by omega)
    have nb := mulDiv_nonneg (a := wi - ((g) 2).I) (b := (outOf ls 22).I) (c := ((g) 2).I) (by omega) (by omega) (by omega)
    simp only [LV.Ii, mulDiv] at ea eb
    refine ⟨R90_ok _ _ _ (by simp only [LV.Ii]; omega) (by omega) (by omega), ?_⟩
    generalize outOf (F77 [.i (529 * ((g) 1).I), outOf ls 22, .i (1000 * ((g) 2).I)]) 0 = ya at *
    generalize outOf (F77 [.i (wi - ((g) 2).I), outOf ls 22, (g) 2]) 0 = yb at *
    generalize 529 * ((g) 1).I * (outOf ls 22).I / (1000 * ((g) 2).I) = va at *
    generalize (wi - ((g) 2).I) * (outOf ls 22).I / ((g) 2).I = vb at *
    rw [E76 ((g) 8) ya (by omega) (by omega), E76 ((g) 2) yb (by omega) (by omega), ea, eb]
    unfold sat
    clear ea eb e28 wt
    omega
  · rw [if_neg (fun h' => he ((tf_t _).mp h'))]
    have hg := hok
    simp only [begun', if_neg he]
    obtain ⟨⟨wt, ht⟩, w1, w2, w3, hc, hm, hw⟩ := grow_facts (g := outOf ls) hg hn hnow hs
    have e28 := fun t => E28 (outOf ls) t hg
    simp only [wt, w1, w2, w3, true_implies, implies_true, true_and, e28, E75, LV.Ii, grown, Nat.reduceEqDiff, if_true, if_false, and_true]
    have hwr := clampI_range (curveI ((outOf ls) 1).I ((outOf ls) 5).I ((outOf ls) 7).I ((max 0 ((outOf ls 23).I - ((outOf ls) 6).I) + (outOf ls 24).I) / 1000)) (l := ((outOf ls) 2).I) (h := ((outOf ls) 2).I + ((outOf ls) 2).I / 2) (by omega)
    refine ⟨R28_ok (outOf ls) _ ht, R90_ok _ _ _ (by simp only [LV.Ii]; omega) (by omega) (by simp only [LV.Ii]; omega), ?_⟩
    generalize clampI (curveI ((outOf ls) 1).I ((outOf ls) 5).I ((outOf ls) 7).I ((max 0 ((outOf ls 23).I - ((outOf ls) 6).I) + (outOf ls 24).I) / 1000)) ((outOf ls) 2).I (((outOf ls) 2).I + ((outOf ls) 2).I / 2) = wi at *
    have w4 : IntKind.i64.wrap (wi - ((outOf ls) 2).I) = wi - ((outOf ls) 2).I := wrap_i64 (by omega) (by omega)
    simp only [w4]
    have ea := E77 (.i (529 * ((outOf ls) 1).I)) (outOf ls 22) (.i (1000 * ((outOf ls) 2).I)) (by simp only [LV.Ii]; omega) (by omega) (by simp only [LV.Ii]; omega)
    have eb := E77 (.i (wi - ((outOf ls) 2).I)) (outOf ls 22) ((outOf ls) 2) (by simp only [LV.Ii]; omega) (by omega) (by omega)
    have na := mulDiv_nonneg (a := 529 * ((outOf ls) 1).I) (b := (outOf ls 22).I) (c := 1000 * ((outOf ls) 2).I) (by omega) (by omega) (by omega)
    have nb := mulDiv_nonneg (a := wi - ((outOf ls) 2).I) (b := (outOf ls 22).I) (c := ((outOf ls) 2).I) (by omega) (by omega) (by omega)
    simp only [LV.Ii, mulDiv] at ea eb
    refine ⟨R90_ok _ _ _ (by simp only [LV.Ii]; omega) (by omega) (by omega), ?_⟩
    generalize outOf (F77 [.i (529 * ((outOf ls) 1).I), outOf ls 22, .i (1000 * ((outOf ls) 2).I)]) 0 = ya at *
    generalize outOf (F77 [.i (wi - ((outOf ls) 2).I), outOf ls 22, (outOf ls) 2]) 0 = yb at *
    generalize 529 * ((outOf ls) 1).I * (outOf ls 22).I / (1000 * ((outOf ls) 2).I) = va at *
    generalize (wi - ((outOf ls) 2).I) * (outOf ls 22).I / ((outOf ls) 2).I = vb at *
    rw [E76 ((outOf ls) 8) ya (by omega) (by omega), E76 ((outOf ls) 2) yb (by omega) (by omega), ea, eb]
    unfold sat
    clear ea eb e28 wt
    omega

end Go.Proofs.Ythhnnfmfeofknaa.Sy
