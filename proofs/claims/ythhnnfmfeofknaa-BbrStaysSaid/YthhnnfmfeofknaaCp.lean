/-
  bbr: whether a controller may be; filter: whether entries may be: the program's and the reference's are the same.
-/
import Derived.Test.YthhnnfmfeofknaaCo
namespace Go.Proofs.Ythhnnfmfeofknaa.Sy
open Go Go.RowKit
set_option linter.unusedSimpArgs false
set_option linter.unusedVariables false

def atR (rows : List (List LV)) (i : Nat) : Int := ((rows.getD i []).getD 0 (.i 0)).I
def vR (rows : List (List LV)) (i : Nat) : Int := ((rows.getD i []).getD 1 (.i 0)).I
abbrev EntryOk (a v : Int) : Prop := (0 ≤ a ∧ a ≤ 1125899906842624) ∧ 0 ≤ v ∧ v ≤ 1152921504606846976
abbrev FOkAt (rows : List (List LV)) (m : Bool) (i : Nat) : Prop := EntryOk (atR rows i) (vR rows i) ∧ (0 < i → atR rows (i - 1) < atR rows i ∧ (m = true → vR rows i < vR rows (i - 1)) ∧ (m = false → vR rows (i - 1) < vR rows i))
abbrev FOk (rows : List (List LV)) (m : Bool) : Prop := ∀ i, i < rows.length → FOkAt rows m i
theorem E129 (a b : LV) : (outOf (F129 [a, b]) 0).B = tf (EntryOk a.I b.I) := by
  simp only [F129, t129, Tr.ev, L129, ap, if_true, Nat.reduceEqDiff, if_false, List.map_cons, List.map_nil, E.den, O1.ev, ev_add, ev_sub, ev_mul, ev_quo, ev_rem, ev_mx, ev_mn, ev_shl, ev_shr, ev_bit, ev_lt, ev_le, ev_eq, ev_and, ev_or, ev_eqb, ev_cat, ev_rcons, ev_rd]
  simp only [outOf_z, outOf_s, LV.Ii, LV.Bb, LV.Ll]
  rw [← Bool.coe_iff_coe]
  simp only [Bool.or_eq_true, Bool.and_eq_true, Bool.not_eq_true', tf_t, tf_f, Bool.or_eq_false_iff, Bool.and_eq_false_iff, EntryOk, and_assoc]
theorem E130 (a b m : LV) : (outOf (F130 [a, b, m]) 0).B = tf ((m.B = true ∧ b.I ≤ a.I) ∨ (m.B = false ∧ a.I ≤ b.I)) := by
  simp only [F130, t130, Tr.ev, L130, ap, if_true, Nat.reduceEqDiff, if_false, List.map_cons, List.map_nil, E.den, O1.ev, ev_add, ev_sub, ev_mul, ev_quo, ev_rem, ev_mx, ev_mn, ev_shl, ev_shr, ev_bit, ev_lt, ev_le, ev_eq, ev_and, ev_or, ev_eqb, ev_cat, ev_rcons, ev_rd]
  simp only [outOf_z, outOf_s, LV.Ii, LV.Bb, LV.Ll]
  rw [← Bool.coe_iff_coe]
  simp only [Bool.or_eq_true, Bool.and_eq_true, Bool.not_eq_true', tf_t, tf_f, Bool.or_eq_false_iff, Bool.and_eq_false_iff]
def F116 (ls : List LV) : List LV := [.i (if FOk (outOf ls 0).L (outOf ls 1).B then 0 else 2)]
abbrev F114 := F116
def R116 (ls : List LV) : Prop := (outOf ls 0).L.length ≤ 9223372036854775807
abbrev R114 := R116
theorem choose2 {P : Prop} [Decidable P] (h : ¬ P) : (2 : Int) = (if P then 0 else 2) := by rw [if_neg h]
theorem choose0 {P : Prop} [Decidable P] (h : P) (x : Int) : (0 : Int) = (if P then 0 else x) := by rw [if_pos h]
theorem choose230' {P : Prop} [Decidable P] (h : ¬ P) : (230 : Int) = (if P then 0 else 230) := by rw [if_neg h]
/-! tideway/filter.Check -/
def s116 : Sig := ⟨116, 116, [.col (.sl [(.int .i64), (.int .i64)]), .col (.base .bool)], [.col I64]⟩
def t116 : Tr (List (Col × E)) :=
 (.loop 2 1 [(.ki (0))]
 (.ite (.op2 .lt (.v 2) (.len (.v 0)))
  (.item (.need (.op2 .le (.ki (0)) (.v 2)))
  (.item (.need (.op2 .lt (.v 2) (.len (.v 0))))
  (.item (.bind 129 [(.op2 (.rd 0) (.v 0) (.v 2)), (.op2 (.rd 1) (.v 0) (.v 2))] 3 1)
  (.item (.bind 130 [(.op2 (.rd 1) (.v 0) (.v 2)), (.op2 (.rd 1) (.v 0) (.op1 (.wrap .i64) (.op2 .sub (.v 2) (.ki (1))))), (.v 1)] 4 1)
  (.item (.pre (.kb true) 129 [(.op2 (.rd 0) (.v 0) (.v 2)), (.op2 (.rd 1) (.v 0) (.v 2))])
  (.item (.need (.op2 .or (.op1 .not (.op2 .and (.op1 .not (.op1 .not (.v 3))) (.op2 .lt (.ki (0)) (.v 2)))) (.op2 .le (.ki (0)) (.op1 (.wrap .i64) (.op2 .sub (.v 2) (.ki (1)))))))
  (.item (.need (.op2 .or (.op1 .not (.op2 .and (.op1 .not (.op1 .not (.v 3))) (.op2 .lt (.ki (0)) (.v 2)))) (.op2 .lt (.op1 (.wrap .i64) (.op2 .sub (.v 2) (.ki (1)))) (.len (.v 0)))))
  (.item (.need (.op2 .or (.op1 .not (.op2 .and (.op2 .and (.op1 .not (.op1 .not (.v 3))) (.op2 .lt (.ki (0)) (.v 2))) (.op1 .not (.op2 .le (.op2 (.rd 0) (.v 0) (.v 2)) (.op2 (.rd 0) (.v 0) (.op1 (.wrap .i64) (.op2 .sub (.v 2) (.ki (1))))))))) (.op2 .le (.ki (0)) (.op1 (.wrap .i64) (.op2 .sub (.v 2) (.ki (1)))))))
  (.item (.need (.op2 .or (.op1 .not (.op2 .and (.op2 .and (.op1 .not (.op1 .not (.v 3))) (.op2 .lt (.ki (0)) (.v 2))) (.op1 .not (.op2 .le (.op2 (.rd 0) (.v 0) (.v 2)) (.op2 (.rd 0) (.v 0) (.op1 (.wrap .i64) (.op2 .sub (.v 2) (.ki (1))))))))) (.op2 .lt (.op1 (.wrap .i64) (.op2 .sub (.v 2) (.ki (1)))) (.len (.v 0)))))
  (.item (.pre (.op2 .and (.op2 .and (.op1 .not (.op1 .not (.v 3))) (.op2 .lt (.ki (0)) (.v 2))) (.op1 .not (.op2 .le (.op2 (.rd 0) (.v 0) (.v 2)) (.op2 (.rd 0) (.v 0) (.op1 (.wrap .i64) (.op2 .sub (.v 2) (.ki (1)))))))) 130 [(.op2 (.rd 1) (.v 0) (.v 2)), (.op2 (.rd 1) (.v 0) (.op1 (.wrap .i64) (.op2 .sub (.v 2) (.ki (1))))), (.v 1)])
  (.ite (.op2 .or (.op1 .not (.v 3)) (.op2 .and (.op2 .lt (.ki (0)) (.v 2)) (.op2 .or (.op2 .le (.op2 (.rd 0) (.v 0) (.v 2)) (.op2 (.rd 0) (.v 0) (.op1 (.wrap .i64) (.op2 .sub (.v 2) (.ki (1)))))) (.v 4))))
   (.leaf [(I64, (.ki (2)))])
   (.next 0 [(.op1 (.wrap .i64) (.op2 .add (.v 2) (.ki (1))))]))))))))))))
  (.leaf [(I64, (.ki (0)))])))
theorem c116 : compile Go.Proofs.Try.prog [s129, s130] Go.Proofs.Try.f116 s116.params s116.results = some t116 := by kernel_rfl
def L116 : List (Nat × (List LV → List LV)) := [(129, F129), (130, F130)]
def M116 : List (Nat × (List LV → Prop)) := []
theorem h116 : ∀ sg, sg ∈ [s129, s130] → ConOk Go.Proofs.Try.prog (ap L116) (apR M116) sg := by
  intro sg h
  simp only [List.mem_cons, List.not_mem_nil, or_false] at h
  rcases h with rfl | rfl
  · exact k129.to rfl rfl
  · exact k130.to rfl rfl
set_option maxRecDepth 100000 in
theorem k116 : Kon Go.Proofs.Try.prog s116 F116 R116 := by
  refine con_ok h116 (by kernel_rfl) Go.Proofs.Try.func116 (by kernel_rfl) c116 ?_
  intro ls _ hr
  simp only [R116] at hr
  simp only [t116, Tr.den, L116, M116, ap, apR, if_true, Nat.reduceEqDiff, if_false, List.map_cons, List.map_nil, E.den, O1.ev, ev_add, ev_sub, ev_mul, ev_quo, ev_rem, ev_mx, ev_mn, ev_shl, ev_shr, ev_bit, ev_lt, ev_le, ev_eq, ev_and, ev_or, ev_eqb, ev_cat, ev_rcons, ev_rd, SameL, Col.same, List.nil_append, nextAt]
  simp only [setE_lt, setE_hit, Nat.reduceLT, Nat.reduceLeDiff, Nat.reduceAdd, Nat.reduceSub]
  simp only [LV.Ii, LV.Bb, LV.Ll]
  simp only [F116, outOf_z, LV.Ii, E129, E130]
  generalize (outOf ls 0).L = rows at *
  generalize (outOf ls 1).B = m at *
  refine loop_ok (fun xs => ∃ i : Nat, xs = [.i i] ∧ i ≤ rows.length ∧ ∀ j, j < i → FOkAt rows m j) (fun xs => rows.length - (outOf xs 0).I.toNat) ?_ ⟨0, rfl, by omega, fun j h => by omega⟩
  rintro xs ih ⟨i, rfl, hi, hall⟩ hih
  simp only [outOf_z, LV.Ii, Int.toNat_natCast]
  by_cases hlt : (i : Int) < rows.length
  case neg =>
    rw [if_neg (fun h => hlt ((tf_t _).mp h))]
    have hall' : FOk rows m := fun j hj => hall j (by omega)
    exact ⟨choose0 hall' _, trivial⟩
  rw [if_pos ((tf_t _).mpr hlt)]
  have ha : ∀ j, ((rows.getD j []).getD 0 (.i 0)).I = atR rows j := fun _ => rfl
  have hv : ∀ j, ((rows.getD j []).getD 1 (.i 0)).I = vR rows j := fun _ => rfl
  have hlt' : i < rows.length := by omega
  have e1 : 0 < i → (IntKind.i64.wrap ((i : Int) - 1)) = ((i - 1 : Nat) : Int) := by intro h; rw [wrap_i64 (by omega) (by omega)]; omega
  have e2 : 0 < i → (IntKind.i64.wrap ((i : Int) - 1)).toNat = i - 1 := by intro h; rw [e1 h, Int.toNat_natCast]
  have ej : IntKind.i64.wrap ((i : Int) + 1) = ((i + 1 : Nat) : Int) := by rw [wrap_i64 (by omega) (by omega)]; omega
  have hnext : FOkAt rows m i → ih [.i ((i + 1 : Nat) : Int)] := fun h => hih _ ⟨i + 1, rfl, by omega, fun j hj => by
    rcases Nat.lt_succ_iff_lt_or_eq.mp hj with h1 | h1
    · exact hall j h1
    · rw [h1]; exact h⟩ (by simp only [outOf_z, LV.Ii]; omega)
  rw [ej]
  simp only [ha]
  simp only [hv]
  by_cases h0 : 0 < i
  · have h0' : (0 : Int) < i := by omega
    rw [e1 h0]
    simp only [Int.toNat_natCast, ha, hv]
    have n1 : (0 : Int) ≤ ((i - 1 : Nat) : Int) := by omega
    have n2 : ((i - 1 : Nat) : Int) < rows.length := by omega
    refine ⟨(tf_t _).mpr (by omega), (tf_t _).mpr hlt, fun _ => trivial, ?_, ?_, ?_, ?_, fun _ => trivial, ?_⟩
    · simp only [(tf_t _).mpr n1, Bool.or_true]
    · simp only [(tf_t _).mpr n2, Bool.or_true]
    · simp only [(tf_t _).mpr n1, Bool.or_true]
    · simp only [(tf_t _).mpr n2, Bool.or_true]
    by_cases hat : FOkAt rows m i
    · rw [if_neg]
      · exact hnext hat
      · obtain ⟨g1, g2⟩ := hat
        obtain ⟨g2, g3, g4⟩ := g2 h0
        simp only [Bool.or_eq_true, Bool.and_eq_true, Bool.not_eq_true', tf_t, tf_f, Bool.or_eq_false_iff, Bool.and_eq_false_iff]
        cases m
        · have := g4 rfl
          simp only [reduceCtorEq, false_and, true_and, false_or]
          omega
        · have := g3 rfl
          simp only [reduceCtorEq, false_and, true_and, or_false]
          omega
    · rw [if_pos]
      · exact ⟨choose2 (fun h => hat (h i hlt')), trivial⟩
      · simp only [Bool.or_eq_true, Bool.and_eq_true, Bool.not_eq_true', tf_t, tf_f, Bool.or_eq_false_iff, Bool.and_eq_false_iff]
        cases m
        · simp only [FOkAt, reduceCtorEq, false_and, true_and, false_or, false_implies, true_implies, h0, h0'] at hat ⊢
          omega
        · simp only [FOkAt, reduceCtorEq, false_and, true_and, or_false, false_implies, true_implies, and_true, h0, h0'] at hat ⊢
          omega
  · have h0' : ¬ (0 : Int) < i := by omega
    have hf0 : tf ((0 : Int) < i) = false := by rw [tf_f]; exact h0'
    simp only [hf0, Bool.and_false, Bool.false_and, Bool.not_false, Bool.true_or, Bool.or_false]
    refine ⟨(tf_t _).mpr (by omega), (tf_t _).mpr hlt, fun _ => trivial, trivial, trivial, trivial, trivial, fun h => by trivial, ?_⟩
    by_cases hat : FOkAt rows m i
    · rw [if_neg]
      · exact hnext hat
      · simp only [Bool.or_eq_true, Bool.and_eq_true, Bool.not_eq_true', tf_t, tf_f, Bool.or_eq_false_iff, Bool.and_eq_false_iff]
        exact fun h => h hat.1
    · rw [if_pos]
      · exact ⟨choose2 (fun h => hat (h i hlt')), trivial⟩
      · simp only [Bool.or_eq_true, Bool.and_eq_true, Bool.not_eq_true', tf_t, tf_f, Bool.or_eq_false_iff, Bool.and_eq_false_iff]
        exact fun h => hat ⟨h, fun h1 => absurd h1 h0⟩
/-! tideway/tidewayref12.Check -/
def s114 : Sig := ⟨114, 114, [.col (.sl [(.int .i64), (.int .i64)]), .col (.base .bool)], [.col I64]⟩
def t114 : Tr (List (Col × E)) :=
 (.loop 2 1 [(.ki (0))]
 (.ite (.op2 .lt (.v 2) (.len (.v 0)))
  (.item (.bind 127 [(.op2 (.rd 0) (.v 0) (.v 2))] 3 1)
  (.item (.bind 128 [(.op2 (.rd 1) (.v 0) (.v 2))] 4 1)
  (.item (.need (.op2 .le (.ki (0)) (.v 2)))
  (.item (.need (.op2 .lt (.v 2) (.len (.v 0))))
  (.item (.pre (.kb true) 127 [(.op2 (.rd 0) (.v 0) (.v 2))])
  (.item (.need (.op2 .or (.op1 .not (.op1 .not (.op1 .not (.v 3)))) (.op2 .le (.ki (0)) (.v 2))))
  (.item (.need (.op2 .or (.op1 .not (.op1 .not (.op1 .not (.v 3)))) (.op2 .lt (.v 2) (.len (.v 0)))))
  (.item (.pre (.op1 .not (.op1 .not (.v 3))) 128 [(.op2 (.rd 1) (.v 0) (.v 2))])
  (.item (.need (.op2 .or (.op1 .not (.op2 .and (.op1 .not (.op2 .or (.op1 .not (.v 3)) (.op1 .not (.v 4)))) (.op2 .lt (.ki (0)) (.v 2)))) (.op2 .le (.ki (0)) (.v 2))))
  (.item (.need (.op2 .or (.op1 .not (.op2 .and (.op1 .not (.op2 .or (.op1 .not (.v 3)) (.op1 .not (.v 4)))) (.op2 .lt (.ki (0)) (.v 2)))) (.op2 .lt (.v 2) (.len (.v 0)))))
  (.item (.need (.op2 .or (.op1 .not (.op2 .and (.op1 .not (.op2 .or (.op1 .not (.v 3)) (.op1 .not (.v 4)))) (.op2 .lt (.ki (0)) (.v 2)))) (.op2 .le (.ki (0)) (.op1 (.wrap .i64) (.op2 .sub (.v 2) (.ki (1)))))))
  (.item (.need (.op2 .or (.op1 .not (.op2 .and (.op1 .not (.op2 .or (.op1 .not (.v 3)) (.op1 .not (.v 4)))) (.op2 .lt (.ki (0)) (.v 2)))) (.op2 .lt (.op1 (.wrap .i64) (.op2 .sub (.v 2) (.ki (1)))) (.len (.v 0)))))
  (.ite (.op2 .or (.op2 .or (.op1 .not (.v 3)) (.op1 .not (.v 4))) (.op2 .and (.op2 .lt (.ki (0)) (.v 2)) (.op2 .le (.op2 (.rd 0) (.v 0) (.v 2)) (.op2 (.rd 0) (.v 0) (.op1 (.wrap .i64) (.op2 .sub (.v 2) (.ki (1))))))))
   (.leaf [(I64, (.ki (2)))])
   (.item (.need (.op2 .or (.op1 .not (.op2 .and (.op2 .lt (.ki (0)) (.v 2)) (.v 1))) (.op2 .le (.ki (0)) (.v 2))))
   (.item (.need (.op2 .or (.op1 .not (.op2 .and (.op2 .lt (.ki (0)) (.v 2)) (.v 1))) (.op2 .lt (.v 2) (.len (.v 0)))))
   (.item (.need (.op2 .or (.op1 .not (.op2 .and (.op2 .lt (.ki (0)) (.v 2)) (.v 1))) (.op2 .le (.ki (0)) (.op1 (.wrap .i64) (.op2 .sub (.v 2) (.ki (1)))))))
   (.item (.need (.op2 .or (.op1 .not (.op2 .and (.op2 .lt (.ki (0)) (.v 2)) (.v 1))) (.op2 .lt (.op1 (.wrap .i64) (.op2 .sub (.v 2) (.ki (1)))) (.len (.v 0)))))
   (.item (.need (.op2 .or (.op1 .not (.op2 .and (.op2 .and (.op2 .lt (.ki (0)) (.v 2)) (.op1 .not (.op2 .and (.v 1) (.op2 .le (.op2 (.rd 1) (.v 0) (.op1 (.wrap .i64) (.op2 .sub (.v 2) (.ki (1))))) (.op2 (.rd 1) (.v 0) (.v 2)))))) (.op1 .not (.v 1)))) (.op2 .le (.ki (0)) (.v 2))))
   (.item (.need (.op2 .or (.op1 .not (.op2 .and (.op2 .and (.op2 .lt (.ki (0)) (.v 2)) (.op1 .not (.op2 .and (.v 1) (.op2 .le (.op2 (.rd 1) (.v 0) (.op1 (.wrap .i64) (.op2 .sub (.v 2) (.ki (1))))) (.op2 (.rd 1) (.v 0) (.v 2)))))) (.op1 .not (.v 1)))) (.op2 .lt (.v 2) (.len (.v 0)))))
   (.item (.need (.op2 .or (.op1 .not (.op2 .and (.op2 .and (.op2 .lt (.ki (0)) (.v 2)) (.op1 .not (.op2 .and (.v 1) (.op2 .le (.op2 (.rd 1) (.v 0) (.op1 (.wrap .i64) (.op2 .sub (.v 2) (.ki (1))))) (.op2 (.rd 1) (.v 0) (.v 2)))))) (.op1 .not (.v 1)))) (.op2 .le (.ki (0)) (.op1 (.wrap .i64) (.op2 .sub (.v 2) (.ki (1)))))))
   (.item (.need (.op2 .or (.op1 .not (.op2 .and (.op2 .and (.op2 .lt (.ki (0)) (.v 2)) (.op1 .not (.op2 .and (.v 1) (.op2 .le (.op2 (.rd 1) (.v 0) (.op1 (.wrap .i64) (.op2 .sub (.v 2) (.ki (1))))) (.op2 (.rd 1) (.v 0) (.v 2)))))) (.op1 .not (.v 1)))) (.op2 .lt (.op1 (.wrap .i64) (.op2 .sub (.v 2) (.ki (1)))) (.len (.v 0)))))
   (.ite (.op2 .and (.op2 .lt (.ki (0)) (.v 2)) (.op2 .or (.op2 .and (.v 1) (.op2 .le (.op2 (.rd 1) (.v 0) (.op1 (.wrap .i64) (.op2 .sub (.v 2) (.ki (1))))) (.op2 (.rd 1) (.v 0) (.v 2)))) (.op2 .and (.op1 .not (.v 1)) (.op2 .le (.op2 (.rd 1) (.v 0) (.v 2)) (.op2 (.rd 1) (.v 0) (.op1 (.wrap .i64) (.op2 .sub (.v 2) (.ki (1)))))))))
    (.leaf [(I64, (.ki (2)))])
    (.next 0 [(.op1 (.wrap .i64) (.op2 .add (.v 2) (.ki (1))))])))))))))))))))))))))))
  (.leaf [(I64, (.ki (0)))])))
theorem c114 : compile Go.Proofs.Try.prog [s127, s128] Go.Proofs.Try.f114 s114.params s114.results = some t114 := by kernel_rfl
def L114 : List (Nat × (List LV → List LV)) := [(127, F127), (128, F128)]
def M114 : List (Nat × (List LV → Prop)) := []
theorem h114 : ∀ sg, sg ∈ [s127, s128] → ConOk Go.Proofs.Try.prog (ap L114) (apR M114) sg := by
  intro sg h
  simp only [List.mem_cons, List.not_mem_nil, or_false] at h
  rcases h with rfl | rfl
  · exact k127.to rfl rfl
  · exact k128.to rfl rfl
set_option maxRecDepth 100000 in
theorem k114 : Kon Go.Proofs.Try.prog s114 F114 R114 := by
  refine con_ok h114 (by kernel_rfl) Go.Proofs.Try.func114 (by kernel_rfl) c114 ?_
  intro ls _ hr
  simp only [R114, R116] at hr
  simp only [t114, Tr.den, L114, M114, ap, apR, if_true, Nat.reduceEqDiff, if_false, List.map_cons, List.map_nil, E.den, O1.ev, ev_add, ev_sub, ev_mul, ev_quo, ev_rem, ev_mx, ev_mn, ev_shl, ev_shr, ev_bit, ev_lt, ev_le, ev_eq, ev_and, ev_or, ev_eqb, ev_cat, ev_rcons, ev_rd, SameL, Col.same, List.nil_append, nextAt]
  simp only [setE_lt, setE_hit, Nat.reduceLT, Nat.reduceLeDiff, Nat.reduceAdd, Nat.reduceSub]
  simp only [LV.Ii, LV.Bb, LV.Ll]
  simp only [F114, F116, outOf_z, LV.Ii, E127, E128]
  generalize (outOf ls 0).L = rows at *
  generalize (outOf ls 1).B = m at *
  refine loop_ok (fun xs => ∃ i : Nat, xs = [.i i] ∧ i ≤ rows.length ∧ ∀ j, j < i → FOkAt rows m j) (fun xs => rows.length - (outOf xs 0).I.toNat) ?_ ⟨0, rfl, by omega, fun j h => by omega⟩
  rintro xs ih ⟨i, rfl, hi, hall⟩ hih
  simp only [outOf_z, LV.Ii, Int.toNat_natCast]
  by_cases hlt : (i : Int) < rows.length
  case neg =>
    rw [if_neg (fun h => hlt ((tf_t _).mp h))]
    have hall' : FOk rows m := fun j hj => hall j (by omega)
    exact ⟨choose0 hall' _, trivial⟩
  rw [if_pos ((tf_t _).mpr hlt)]
  have ha : ∀ j, ((rows.getD j []).getD 0 (.i 0)).I = atR rows j := fun _ => rfl
  have hv : ∀ j, ((rows.getD j []).getD 1 (.i 0)).I = vR rows j := fun _ => rfl
  have hlt' : i < rows.length := by omega
  have e1 : 0 < i → (IntKind.i64.wrap ((i : Int) - 1)) = ((i - 1 : Nat) : Int) := by intro h; rw [wrap_i64 (by omega) (by omega)]; omega
  have e2 : 0 < i → (IntKind.i64.wrap ((i : Int) - 1)).toNat = i - 1 := by intro h; rw [e1 h, Int.toNat_natCast]
  have ej : IntKind.i64.wrap ((i : Int) + 1) = ((i + 1 : Nat) : Int) := by rw [wrap_i64 (by omega) (by omega)]; omega
  have hnext : FOkAt rows m i → ih [.i ((i + 1 : Nat) : Int)] := fun h => hih _ ⟨i + 1, rfl, by omega, fun j hj => by
    rcases Nat.lt_succ_iff_lt_or_eq.mp hj with h1 | h1
    · exact hall j h1
    · rw [h1]; exact h⟩ (by simp only [outOf_z, LV.Ii]; omega)
  rw [ej]
  simp only [ha]
  simp only [hv]
  have n0 : tf ((0 : Int) ≤ i) = true := (tf_t _).mpr (by omega)
  have n3 : tf ((i : Int) < rows.length) = true := (tf_t _).mpr hlt
  simp only [n0, n3, Bool.or_true, true_and, implies_true, and_true]
  by_cases h0 : 0 < i
  · have h0' : (0 : Int) < i := by omega
    rw [e1 h0]
    simp only [Int.toNat_natCast, ha, hv]
    have n1 : tf ((0 : Int) ≤ ((i - 1 : Nat) : Int)) = true := (tf_t _).mpr (by omega)
    have n2 : tf (((i - 1 : Nat) : Int) < rows.length) = true := (tf_t _).mpr (by omega)
    have hf0 : tf ((0 : Int) < i) = true := (tf_t _).mpr h0'
    simp only [n1, n2, hf0, Bool.or_true, true_and, Bool.true_and]
    by_cases hat : FOkAt rows m i
    · obtain ⟨g1, g2⟩ := hat
      have hat : FOkAt rows m i := ⟨g1, g2⟩
      obtain ⟨g2, g3, g4⟩ := g2 h0
      rw [if_neg, if_neg]
      · exact hnext hat
      · simp only [Bool.or_eq_true, Bool.and_eq_true, Bool.not_eq_true', tf_t, tf_f, Bool.or_eq_false_iff, Bool.and_eq_false_iff]
        cases m
        · have := g4 rfl
          simp only [reduceCtorEq, false_and, true_and, false_or]
          omega
        · have := g3 rfl
          simp only [reduceCtorEq, false_and, true_and, or_false]
          omega
      · simp only [Bool.or_eq_true, Bool.and_eq_true, Bool.not_eq_true', tf_t, tf_f, Bool.or_eq_false_iff, Bool.and_eq_false_iff]
        simp only [EntryOk] at g1
        omega
    · have hno := choose2 (fun h => hat (h i hlt') : ¬ FOk rows m)
      split
      · exact hno
      · rename_i hc1
        split
        · exact hno
        · rename_i hc2
          exfalso
          apply hat
          simp only [Bool.or_eq_true, Bool.and_eq_true, Bool.not_eq_true', tf_t, tf_f, Bool.or_eq_false_iff, Bool.and_eq_false_iff] at hc1 hc2
          refine ⟨by simp only [EntryOk]; omega, fun _ => ?_⟩
          cases m
          · simp only [reduceCtorEq, false_and, true_and, false_or, false_implies, true_implies] at hc2 ⊢
            omega
          · simp only [reduceCtorEq, false_and, true_and, or_false, false_implies, true_implies, and_true] at hc2 ⊢
            omega
  · have hf0 : tf ((0 : Int) < i) = false := by rw [tf_f]; omega
    simp only [hf0, Bool.and_false, Bool.false_and, Bool.not_false, Bool.true_or, Bool.or_false, true_and, Bool.false_eq_true, if_false]
    by_cases hat : FOkAt rows m i
    · rw [if_neg]
      · exact hnext hat
      · simp only [Bool.or_eq_true, Bool.and_eq_true, Bool.not_eq_true', tf_t, tf_f, Bool.or_eq_false_iff, Bool.and_eq_false_iff]
        have := hat.1
        simp only [EntryOk] at this
        omega
    · rw [if_pos]
      · exact choose2 (fun h => hat (h i hlt'))
      · simp only [Bool.or_eq_true, Bool.and_eq_true, Bool.not_eq_true', tf_t, tf_f, Bool.or_eq_false_iff, Bool.and_eq_false_iff]
        have : ¬ EntryOk (atR rows i) (vR rows i) := fun h => hat ⟨h, fun h1 => absurd h1 h0⟩
        simp only [EntryOk] at this
        omega
end Go.Proofs.Ythhnnfmfeofknaa.Sy
