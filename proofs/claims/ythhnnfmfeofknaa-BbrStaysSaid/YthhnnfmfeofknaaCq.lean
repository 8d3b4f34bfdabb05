/-
  bbr: whether a controller may be: the program's and the reference's are the same; the bandwidth, the gain.
-/
import Derived.Test.YthhnnfmfeofknaaCp
namespace Go.Proofs.Ythhnnfmfeofknaa.Sy
open Go Go.RowKit
set_option linter.unusedSimpArgs false
set_option linter.unusedVariables false

abbrev WOk (rows : List (List LV)) (m : Int) : Prop := ∀ i, i < rows.length → 0 ≤ atR rows i ∧ atR rows i ≤ m
abbrev EOk (rows : List (List LV)) (r : Int) : Prop := ∀ i, i < rows.length → vR rows i ≤ 1099511627776 ∧ atR rows i ≤ r
theorem WOk_cons (a : LV) (r : List (List LV)) (m : Int) : WOk ([a] :: r) m ↔ (0 ≤ a.I ∧ a.I ≤ m) ∧ WOk r m := by
  constructor
  · intro h
    exact ⟨h 0 (by simp), fun i hi => h (i + 1) (by simp; omega)⟩
  · rintro ⟨h1, h2⟩ i hi
    cases i with
    | zero => exact h1
    | succ i => exact h2 i (by simp at hi; omega)
theorem WOk_nil (m : Int) : WOk [] m ↔ True := ⟨fun _ => trivial, fun _ i hi => by simp at hi⟩
def F93 (ls : List LV) : List LV := [.b (decide (WOk (outOf ls 1).L (outOf ls 0).I))]
def R93 (ls : List LV) : Prop := (outOf ls 1).L.length ≤ 9223372036854775807
theorem E93 (m r : LV) : (outOf (F93 [m, r]) 0).B = tf (WOk r.L m.I) := by
  rw [tf_d]
  simp only [F93, outOf_z, outOf_s, LV.Bb]
def F95 (ls : List LV) : List LV := [.b (decide (FOk (outOf ls 11).L true ∧ EOk (outOf ls 11).L (outOf ls 14).I))]
def R95 (ls : List LV) : Prop := Short ls
theorem E116 (r m : LV) : (outOf (F116 [r, m]) 0).I = if FOk r.L m.B then 0 else 2 := by simp only [F116, outOf_z, outOf_s, LV.Ii]
theorem E95 (ρ : Nat → LV) : (outOf (F95 [ρ 0, ρ 1, ρ 2, ρ 3, ρ 4, ρ 5, ρ 6, ρ 7, ρ 8, ρ 9, ρ 10, ρ 11, ρ 12, ρ 13, ρ 14, ρ 15, ρ 16, ρ 17, ρ 18, ρ 19, ρ 20, ρ 21]) 0).B = tf (FOk (ρ 11).L true ∧ EOk (ρ 11).L (ρ 14).I) := by
  rw [tf_d]
  simp only [F95, outOf_z, outOf_s, LV.Bb]
theorem chooseT {P : Prop} [Decidable P] (h : P) : true = decide P := (decide_eq_true h).symm
theorem chooseF {P : Prop} [Decidable P] (h : ¬ P) : false = decide P := (decide_eq_false h).symm
/-! tideway/bbr.within -/
def s93 : Sig := ⟨93, 93, [.col I64, .col (.sl [(.int .i64)])], [.col (.base .bool)]⟩
def t93 : Tr (List (Col × E)) :=
 (.loop 2 1 [(.ki (0))]
 (.ite (.op2 .lt (.v 2) (.len (.v 1)))
  (.item (.need (.op2 .le (.ki (0)) (.v 2)))
  (.item (.need (.op2 .lt (.v 2) (.len (.v 1))))
  (.ite (.op2 .or (.op2 .lt (.op2 (.rd 0) (.v 1) (.v 2)) (.ki (0))) (.op2 .lt (.v 0) (.op2 (.rd 0) (.v 1) (.v 2))))
   (.leaf [((.base .bool), (.kb false))])
   (.next 0 [(.op1 (.wrap .i64) (.op2 .add (.v 2) (.ki (1))))]))))
  (.leaf [((.base .bool), (.kb true))])))
theorem c93 : compile Go.Proofs.Try.prog [] Go.Proofs.Try.f93 s93.params s93.results = some t93 := by kernel_rfl
def L93 : List (Nat × (List LV → List LV)) := []
def M93 : List (Nat × (List LV → Prop)) := []
theorem h93 : ∀ sg, sg ∈ ([] : List Sig) → ConOk Go.Proofs.Try.prog (ap L93) (apR M93) sg := fun _ h => absurd h (List.not_mem_nil)
set_option maxRecDepth 100000 in
theorem k93 : Kon Go.Proofs.Try.prog s93 F93 R93 := by
  refine con_ok h93 (by kernel_rfl) Go.Proofs.Try.func93 (by kernel_rfl) c93 ?_
  intro ls _ hr
  simp only [R93] at hr
  simp only [t93, Tr.den, L93, M93, ap, apR, if_true, Nat.reduceEqDiff, if_false, List.map_cons, List.map_nil, E.den, O1.ev, ev_add, ev_sub, ev_mul, ev_quo, ev_rem, ev_mx, ev_mn, ev_shl, ev_shr, ev_bit, ev_lt, ev_le, ev_eq, ev_and, ev_or, ev_eqb, ev_cat, ev_rcons, ev_rd, SameL, Col.same, List.nil_append, nextAt]
  simp only [setE_lt, setE_hit, Nat.reduceLT, Nat.reduceLeDiff, Nat.reduceAdd, Nat.reduceSub]
  simp only [LV.Ii, LV.Bb, LV.Ll]
  simp only [F93, outOf_z, LV.Bb]
  generalize (outOf ls 1).L = rows at *
  generalize (outOf ls 0).I = m at *
  refine loop_ok (fun xs => ∃ i : Nat, xs = [.i i] ∧ i ≤ rows.length ∧ ∀ j, j < i → 0 ≤ atR rows j ∧ atR rows j ≤ m) (fun xs => rows.length - (outOf xs 0).I.toNat) ?_ ⟨0, rfl, by omega, fun j h => by omega⟩
  rintro xs ih ⟨i, rfl, hi, hall⟩ hih
  simp only [outOf_z, LV.Ii, Int.toNat_natCast]
  have ha : ∀ j, ((rows.getD j []).getD 0 (.i 0)).I = atR rows j := fun _ => rfl
  have hv : ∀ j, ((rows.getD j []).getD 1 (.i 0)).I = vR rows j := fun _ => rfl
  simp only [ha]
  by_cases hlt : (i : Int) < rows.length
  case neg =>
    rw [if_neg (fun h => hlt ((tf_t _).mp h))]
    have hall' : WOk rows m := fun j hj => hall j (by omega)
    exact ⟨chooseT hall', trivial⟩
  rw [if_pos ((tf_t _).mpr hlt)]
  have hlt' : i < rows.length := by omega
  have ej : IntKind.i64.wrap ((i : Int) + 1) = ((i + 1 : Nat) : Int) := by rw [wrap_i64 (by omega) (by omega)]; omega
  rw [ej]
  have n0 : tf ((0 : Int) ≤ i) = true := (tf_t _).mpr (by omega)
  have n3 : tf ((i : Int) < rows.length) = true := (tf_t _).mpr hlt
  simp only [n0, n3, Bool.or_true, true_and, implies_true, and_true]
  have hnext : 0 ≤ atR rows i ∧ atR rows i ≤ m → ih [.i ((i + 1 : Nat) : Int)] := fun h => hih _ ⟨i + 1, rfl, by omega, fun j hj => by
    rcases Nat.lt_succ_iff_lt_or_eq.mp hj with h1 | h1
    · exact hall j h1
    · rw [h1]; exact h⟩ (by simp only [outOf_z, LV.Ii]; omega)
  by_cases hat : 0 ≤ atR rows i ∧ atR rows i ≤ m
  · rw [if_neg (by simp only [Bool.or_eq_true, Bool.and_eq_true, Bool.not_eq_true', tf_t, tf_f, Bool.or_eq_false_iff, Bool.and_eq_false_iff, ha, hv]; omega)]
    exact hnext hat
  · rw [if_pos (by simp only [Bool.or_eq_true, Bool.and_eq_true, Bool.not_eq_true', tf_t, tf_f, Bool.or_eq_false_iff, Bool.and_eq_false_iff, ha, hv]; omega)]
    exact chooseF (fun h => hat (h i hlt'))
/-! (*tideway/bbr.ctl).entries -/
def s95 : Sig := ⟨95, 95, [.ptr false [I64, I64, I64, I64, I64, I64, I64, I64, I64, I64, I64, (.sl [(.int .i64), (.int .i64)]), I64, I64, I64, I64, I64, I64, I64, I64, I64, I64]], [.col (.base .bool)]⟩
def t95 : Tr (List (Col × E)) :=
 (.item (.bind 116 [(.v 11), (.kb true)] 22 1)
 (.item (.pre (.kb true) 116 [(.v 11), (.kb true)])
 (.ite (.op1 .not (.op2 .eq (.v 22) (.ki (0))))
 (.leaf [((.base .bool), (.kb false))])
 (.loop 23 1 [(.ki (0))]
  (.ite (.op2 .lt (.v 23) (.len (.v 11)))
   (.item (.need (.op2 .le (.ki (0)) (.v 23)))
   (.item (.need (.op2 .lt (.v 23) (.len (.v 11))))
   (.ite (.op2 .or (.op2 .lt (.ki (1099511627776)) (.op2 (.rd 1) (.v 11) (.v 23))) (.op2 .lt (.v 14) (.op2 (.rd 0) (.v 11) (.v 23))))
    (.leaf [((.base .bool), (.kb false))])
    (.next 0 [(.op1 (.wrap .i64) (.op2 .add (.v 23) (.ki (1))))]))))
   (.leaf [((.base .bool), (.kb true))]))))))
theorem c95 : compile Go.Proofs.Try.prog [s116] Go.Proofs.Try.f95 s95.params s95.results = some t95 := by kernel_rfl
def L95 : List (Nat × (List LV → List LV)) := [(116, F116)]
def M95 : List (Nat × (List LV → Prop)) := [(116, R116)]
theorem h95 : ∀ sg, sg ∈ [s116] → ConOk Go.Proofs.Try.prog (ap L95) (apR M95) sg := by
  intro sg h
  simp only [List.mem_cons, List.not_mem_nil, or_false] at h
  rcases h with rfl
  · exact k116.to rfl rfl
set_option maxRecDepth 100000 in
theorem k95 : Kon Go.Proofs.Try.prog s95 F95 R95 := by
  refine con_ok h95 (by kernel_rfl) Go.Proofs.Try.func95 (by kernel_rfl) c95 ?_
  intro ls _ hr
  simp only [R95, Short] at hr
  simp only [t95, Tr.den, L95, M95, ap, apR, if_true, Nat.reduceEqDiff, if_false, List.map_cons, List.map_nil, E.den, O1.ev, ev_add, ev_sub, ev_mul, ev_quo, ev_rem, ev_mx, ev_mn, ev_shl, ev_shr, ev_bit, ev_lt, ev_le, ev_eq, ev_and, ev_or, ev_eqb, ev_cat, ev_rcons, ev_rd, SameL, Col.same, List.nil_append, nextAt]
  simp only [setE_lt, setE_hit, Nat.reduceLT, Nat.reduceLeDiff, Nat.reduceAdd, Nat.reduceSub]
  simp only [E116]
  simp only [LV.Ii, LV.Bb, LV.Ll]
  simp only [F95, outOf_z, LV.Bb]
  refine ⟨fun _ => hr, ?_⟩
  generalize (outOf ls 11).L = rows at *
  generalize (outOf ls 14).I = m at *
  by_cases hF : FOk rows true
  case neg =>
    rw [if_neg hF, if_pos (by simp [tf_d])]
    exact ⟨chooseF (fun h => hF h.1), trivial⟩
  rw [if_pos hF, if_neg (by simp [tf_d])]
  refine loop_ok (fun xs => ∃ i : Nat, xs = [.i i] ∧ i ≤ rows.length ∧ ∀ j, j < i → vR rows j ≤ 1099511627776 ∧ atR rows j ≤ m) (fun xs => rows.length - (outOf xs 0).I.toNat) ?_ ⟨0, rfl, by omega, fun j h => by omega⟩
  rintro xs ih ⟨i, rfl, hi, hall⟩ hih
  simp only [outOf_z, LV.Ii, Int.toNat_natCast]
  have ha : ∀ j, ((rows.getD j []).getD 0 (.i 0)).I = atR rows j := fun _ => rfl
  have hv : ∀ j, ((rows.getD j []).getD 1 (.i 0)).I = vR rows j := fun _ => rfl
  simp only [ha]
  by_cases hlt : (i : Int) < rows.length
  case neg =>
    rw [if_neg (fun h => hlt ((tf_t _).mp h))]
    have hall' : EOk rows m := fun j hj => hall j (by omega)
    exact ⟨chooseT ⟨hF, hall'⟩, trivial⟩
  rw [if_pos ((tf_t _).mpr hlt)]
  have hlt' : i < rows.length := by omega
  have ej : IntKind.i64.wrap ((i : Int) + 1) = ((i + 1 : Nat) : Int) := by rw [wrap_i64 (by omega) (by omega)]; omega
  rw [ej]
  have n0 : tf ((0 : Int) ≤ i) = true := (tf_t _).mpr (by omega)
  have n3 : tf ((i : Int) < rows.length) = true := (tf_t _).mpr hlt
  simp only [n0, n3, Bool.or_true, true_and, implies_true, and_true]
  have hnext : vR rows i ≤ 1099511627776 ∧ atR rows i ≤ m → ih [.i ((i + 1 : Nat) : Int)] := fun h => hih _ ⟨i + 1, rfl, by omega, fun j hj => by
    rcases Nat.lt_succ_iff_lt_or_eq.mp hj with h1 | h1
    · exact hall j h1
    · rw [h1]; exact h⟩ (by simp only [outOf_z, LV.Ii]; omega)
  by_cases hat : vR rows i ≤ 1099511627776 ∧ atR rows i ≤ m
  · rw [if_neg (by simp only [Bool.or_eq_true, Bool.and_eq_true, Bool.not_eq_true', tf_t, tf_f, Bool.or_eq_false_iff, Bool.and_eq_false_iff, ha, hv]; omega)]
    exact hnext hat
  · rw [if_pos (by simp only [Bool.or_eq_true, Bool.and_eq_true, Bool.not_eq_true', tf_t, tf_f, Bool.or_eq_false_iff, Bool.and_eq_false_iff, ha, hv]; omega)]
    exact chooseF (fun h => hat (h.2 i hlt'))
abbrev BbrPlain (f : Nat → LV) : Prop := (f 0).I = 3 ∧ 1 ≤ (f 1).I ∧ (f 1).I ≤ 65000 ∧ (f 1).I ≤ (f 2).I ∧ (f 2).I ≤ 1073741824 ∧ (f 3).I = 1073741824 ∧ (f 4).I = 0
abbrev BbrNums (f : Nat → LV) : Prop := (TimeI (f 12).I ∧ TimeI (f 13).I ∧ TimeI (f 15).I ∧ TimeI (f 19).I ∧ TimeI (f 20).I ∧ TimeI (f 14).I) ∧ (0 ≤ (f 16).I ∧ (f 16).I ≤ 1099511627776) ∧ (0 ≤ (f 17).I ∧ (f 17).I ≤ 3) ∧ (0 ≤ (f 18).I ∧ (f 18).I ≤ 7) ∧ SizeI (f 21).I ∧ 1 ≤ (f 10).I ∧ (f 10).I ≤ 4
abbrev BbrOk (f : Nat → LV) : Prop := BbrPlain f ∧ NoCubic f ∧ BbrNums f ∧ FOk (f 11).L true ∧ EOk (f 11).L (f 14).I
instance (rows : List (List LV)) (m : Bool) : Decidable (FOk rows m) := inferInstance
instance (rows : List (List LV)) (m : Int) : Decidable (EOk rows m) := inferInstance
instance (f : Nat → LV) : Decidable (BbrPlain f) := inferInstance
instance (f : Nat → LV) : Decidable (BbrNums f) := inferInstance
instance (f : Nat → LV) : Decidable (BbrOk f) := @instDecidableAnd _ _ inferInstance (@instDecidableAnd _ _ inferInstance (@instDecidableAnd _ _ inferInstance (@instDecidableAnd _ _ inferInstance inferInstance)))
def F53 (ls : List LV) : List LV := [.i (if BbrOk (outOf ls) then 0 else 230)]
abbrev F94 := F53
def R53 (ls : List LV) : Prop := Short ls
abbrev R94 := R53
theorem E53 (ls : List LV) : (outOf (F53 ls) 0).I = if BbrOk (outOf ls) then 0 else 230 := by simp only [F53, outOf_z, LV.Ii]
theorem bok22 (ρ : Nat → LV) : BbrOk (outOf [ρ 0, ρ 1, ρ 2, ρ 3, ρ 4, ρ 5, ρ 6, ρ 7, ρ 8, ρ 9, ρ 10, ρ 11, ρ 12, ρ 13, ρ 14, ρ 15, ρ 16, ρ 17, ρ 18, ρ 19, ρ 20, ρ 21]) ↔ BbrOk ρ := Iff.rfl
theorem R53_ok (ρ : Nat → LV) (h : (ρ 11).L.length ≤ 9223372036854775807) : R53 [ρ 0, ρ 1, ρ 2, ρ 3, ρ 4, ρ 5, ρ 6, ρ 7, ρ 8, ρ 9, ρ 10, ρ 11, ρ 12, ρ 13, ρ 14, ρ 15, ρ 16, ρ 17, ρ 18, ρ 19, ρ 20, ρ 21] := h
theorem R93_ok (m : LV) (rows : List (List LV)) (h : rows.length ≤ 100) : R93 [m, .l rows] := by
  simp only [R93, outOf_z, outOf_s, LV.Ll]; omega
/-! tideway/bbr.Check -/
def s53 : Sig := ⟨53, 53, [.agg [I64, I64, I64, I64, I64, I64, I64, I64, I64, I64, I64, (.sl [(.int .i64), (.int .i64)]), I64, I64, I64, I64, I64, I64, I64, I64, I64, I64]], [.col I64]⟩
def t53 : Tr (List (Col × E)) :=
 (.item (.bind 93 [(.ki (1125899906842624)), (.op2 .cat (.op2 .rcons (.v 12) .rnil) (.op2 .cat (.op2 .rcons (.v 13) .rnil) (.op2 .cat (.op2 .rcons (.v 15) .rnil) (.op2 .cat (.op2 .rcons (.v 19) .rnil) (.op2 .cat (.op2 .rcons (.v 20) .rnil) (.op2 .cat (.op2 .rcons (.v 14) .rnil) .lnil))))))] 22 1)
 (.item (.pre (.kb true) 93 [(.ki (1125899906842624)), (.op2 .cat (.op2 .rcons (.v 12) .rnil) (.op2 .cat (.op2 .rcons (.v 13) .rnil) (.op2 .cat (.op2 .rcons (.v 15) .rnil) (.op2 .cat (.op2 .rcons (.v 19) .rnil) (.op2 .cat (.op2 .rcons (.v 20) .rnil) (.op2 .cat (.op2 .rcons (.v 14) .rnil) .lnil))))))])
 (.item (.bind 93 [(.ki (1099511627776)), (.op2 .cat (.op2 .rcons (.v 16) .rnil) .lnil)] 23 1)
 (.item (.bind 93 [(.ki (3)), (.op2 .cat (.op2 .rcons (.v 17) .rnil) .lnil)] 24 1)
 (.item (.bind 93 [(.ki (7)), (.op2 .cat (.op2 .rcons (.v 18) .rnil) .lnil)] 25 1)
 (.item (.bind 93 [(.ki (1073741824)), (.op2 .cat (.op2 .rcons (.v 21) .rnil) .lnil)] 26 1)
 (.item (.pre (.kb true) 93 [(.ki (1099511627776)), (.op2 .cat (.op2 .rcons (.v 16) .rnil) .lnil)])
 (.item (.pre (.v 23) 93 [(.ki (3)), (.op2 .cat (.op2 .rcons (.v 17) .rnil) .lnil)])
 (.item (.pre (.op2 .and (.v 23) (.v 24)) 93 [(.ki (7)), (.op2 .cat (.op2 .rcons (.v 18) .rnil) .lnil)])
 (.item (.pre (.op2 .and (.op2 .and (.v 23) (.v 24)) (.v 25)) 93 [(.ki (1073741824)), (.op2 .cat (.op2 .rcons (.v 21) .rnil) .lnil)])
 (.item (.bind 95 [(.v 0), (.v 1), (.v 2), (.v 3), (.v 4), (.v 5), (.v 6), (.v 7), (.v 8), (.v 9), (.v 10), (.v 11), (.v 12), (.v 13), (.v 14), (.v 15), (.v 16), (.v 17), (.v 18), (.v 19), (.v 20), (.v 21)] 27 1)
 (.item (.pre (.op1 .not (.op2 .or (.op2 .or (.op2 .or (.op2 .or (.op2 .or (.op1 .not (.op2 .and (.op2 .and (.op2 .and (.op2 .and (.op2 .and (.op2 .and (.op2 .eq (.v 0) (.ki (3))) (.op2 .le (.ki (1)) (.v 1))) (.op2 .le (.v 1) (.ki (65000)))) (.op2 .le (.v 1) (.v 2))) (.op2 .le (.v 2) (.ki (1073741824)))) (.op2 .eq (.v 3) (.ki (1073741824)))) (.op2 .eq (.v 4) (.ki (0))))) (.op1 .not (.op2 .and (.op2 .and (.op2 .and (.op2 .and (.op2 .eq (.v 5) (.ki (0))) (.op2 .eq (.v 6) (.ki (0)))) (.op2 .eq (.v 7) (.ki (0)))) (.op2 .eq (.v 8) (.ki (0)))) (.op2 .eq (.v 9) (.ki (0)))))) (.op1 .not (.v 22))) (.op1 .not (.op2 .and (.op2 .and (.op2 .and (.v 23) (.v 24)) (.v 25)) (.v 26)))) (.op2 .lt (.v 10) (.ki (1)))) (.op2 .lt (.ki (4)) (.v 10)))) 95 [(.v 0), (.v 1), (.v 2), (.v 3), (.v 4), (.v 5), (.v 6), (.v 7), (.v 8), (.v 9), (.v 10), (.v 11), (.v 12), (.v 13), (.v 14), (.v 15), (.v 16), (.v 17), (.v 18), (.v 19), (.v 20), (.v 21)])
 (.ite (.op2 .or (.op2 .or (.op2 .or (.op2 .or (.op2 .or (.op2 .or (.op1 .not (.op2 .and (.op2 .and (.op2 .and (.op2 .and (.op2 .and (.op2 .and (.op2 .eq (.v 0) (.ki (3))) (.op2 .le (.ki (1)) (.v 1))) (.op2 .le (.v 1) (.ki (65000)))) (.op2 .le (.v 1) (.v 2))) (.op2 .le (.v 2) (.ki (1073741824)))) (.op2 .eq (.v 3) (.ki (1073741824)))) (.op2 .eq (.v 4) (.ki (0))))) (.op1 .not (.op2 .and (.op2 .and (.op2 .and (.op2 .and (.op2 .eq (.v 5) (.ki (0))) (.op2 .eq (.v 6) (.ki (0)))) (.op2 .eq (.v 7) (.ki (0)))) (.op2 .eq (.v 8) (.ki (0)))) (.op2 .eq (.v 9) (.ki (0)))))) (.op1 .not (.v 22))) (.op1 .not (.op2 .and (.op2 .and (.op2 .and (.v 23) (.v 24)) (.v 25)) (.v 26)))) (.op2 .lt (.v 10) (.ki (1)))) (.op2 .lt (.ki (4)) (.v 10))) (.op1 .not (.v 27)))
 (.leaf [(I64, (.ki (230)))])
 (.leaf [(I64, (.ki (0)))]))))))))))))))
theorem c53 : compile Go.Proofs.Try.prog [s93, s95] Go.Proofs.Try.f53 s53.params s53.results = some t53 := by kernel_rfl
def L53 : List (Nat × (List LV → List LV)) := [(93, F93), (95, F95)]
def M53 : List (Nat × (List LV → Prop)) := [(93, R93), (95, R95)]
theorem h53 : ∀ sg, sg ∈ [s93, s95] → ConOk Go.Proofs.Try.prog (ap L53) (apR M53) sg := by
  intro sg h
  simp only [List.mem_cons, List.not_mem_nil, or_false] at h
  rcases h with rfl | rfl
  · exact k93.to rfl rfl
  · exact k95.to rfl rfl
set_option maxRecDepth 100000 in
theorem k53 : Kon Go.Proofs.Try.prog s53 F53 R53 := by
  refine con_ok h53 (by kernel_rfl) Go.Proofs.Try.func53 (by kernel_rfl) c53 ?_
  intro ls _ hr
  simp only [t53, Tr.den, L53, M53, ap, apR, if_true, Nat.reduceEqDiff, if_false, List.map_cons, List.map_nil, E.den, O1.ev, ev_add, ev_sub, ev_mul, ev_quo, ev_rem, ev_mx, ev_mn, ev_shl, ev_shr, ev_bit, ev_lt, ev_le, ev_eq, ev_and, ev_or, ev_eqb, ev_cat, ev_rcons, ev_rd, SameL, Col.same]
  simp only [setE_lt, setE_hit, Nat.reduceLT, Nat.reduceLeDiff, Nat.reduceAdd, Nat.reduceSub]
  simp only [LV.Ll, List.headD_cons, List.cons_append, List.nil_append]
  simp only [E93, E95 (outOf ls)]
  simp only [LV.Ii, LV.Bb, LV.Ll]
  simp only [F53, outOf_z, LV.Ii]
  refine ⟨fun _ => R93_ok _ _ (by simp only [List.length_cons, List.length_nil]; omega), fun _ => R93_ok _ _ (by simp only [List.length_cons, List.length_nil]; omega), fun _ => R93_ok _ _ (by simp only [List.length_cons, List.length_nil]; omega), fun _ => R93_ok _ _ (by simp only [List.length_cons, List.length_nil]; omega), fun _ => R93_ok _ _ (by simp only [List.length_cons, List.length_nil]; omega), fun _ => hr, ?_⟩
  refine choose230 ?_
  simp only [Bool.or_eq_true, Bool.and_eq_true, Bool.not_eq_true', tf_t, tf_f, Bool.or_eq_false_iff, Bool.and_eq_false_iff, not_true_eq_false, not_false_eq_true, false_or, or_false, true_or, or_true, true_and, and_true, WOk_cons, WOk_nil]
  simp only [BbrOk, BbrPlain, NoCubic, BbrNums, TimeI, SizeI]
  by_cases hF : FOk (outOf ls 11).L true ∧ EOk (outOf ls 11).L (outOf ls 14).I
  · rw [eq_true hF]
    simp only [and_true, not_true_eq_false, or_false]
    omega
  · exact ⟨fun _ h => hF h.2.2.2, fun _ => Or.inr hF⟩
/-! tideway/tidewayref18.Check -/
def s94 : Sig := ⟨94, 94, [.agg [I64, I64, I64, I64, I64, I64, I64, I64, I64, I64, I64, (.sl [(.int .i64), (.int .i64)]), I64, I64, I64, I64, I64, I64, I64, I64, I64, I64]], [.col I64]⟩
def t94 : Tr (List (Col × E)) :=
 (.item (.bind 74 [(.v 0), (.v 1), (.v 2), (.v 3), (.v 4), (.v 5), (.v 6), (.v 7), (.v 8), (.v 9), (.v 10), (.v 11), (.v 12), (.v 13), (.v 14), (.v 15), (.v 16), (.v 17), (.v 18), (.v 19), (.v 20), (.v 21), (.kb false), (.kb true)] 22 1)
 (.item (.pre (.op1 .not (.op2 .or (.op2 .or (.op2 .or (.op2 .or (.op2 .or (.op2 .or (.op1 .not (.op2 .eq (.v 0) (.ki (3)))) (.op2 .lt (.v 1) (.ki (1)))) (.op2 .lt (.ki (65000)) (.v 1))) (.op2 .lt (.v 2) (.v 1))) (.op2 .lt (.ki (1073741824)) (.v 2))) (.op1 .not (.op2 .eq (.v 3) (.ki (1073741824))))) (.op1 .not (.op2 .eq (.v 4) (.ki (0)))))) 74 [(.v 0), (.v 1), (.v 2), (.v 3), (.v 4), (.v 5), (.v 6), (.v 7), (.v 8), (.v 9), (.v 10), (.v 11), (.v 12), (.v 13), (.v 14), (.v 15), (.v 16), (.v 17), (.v 18), (.v 19), (.v 20), (.v 21), (.kb false), (.kb true)])
 (.ite (.op2 .or (.op2 .or (.op2 .or (.op2 .or (.op2 .or (.op2 .or (.op2 .or (.op1 .not (.op2 .eq (.v 0) (.ki (3)))) (.op2 .lt (.v 1) (.ki (1)))) (.op2 .lt (.ki (65000)) (.v 1))) (.op2 .lt (.v 2) (.v 1))) (.op2 .lt (.ki (1073741824)) (.v 2))) (.op1 .not (.op2 .eq (.v 3) (.ki (1073741824))))) (.op1 .not (.op2 .eq (.v 4) (.ki (0))))) (.op1 .not (.v 22)))
 (.leaf [(I64, (.ki (230)))])
 (.item (.bind 114 [(.v 11), (.kb true)] 23 1)
 (.item (.bind 115 [(.v 12)] 24 1)
 (.item (.bind 115 [(.v 13)] 25 1)
 (.item (.bind 115 [(.v 15)] 26 1)
 (.item (.bind 115 [(.v 19)] 27 1)
 (.item (.bind 115 [(.v 20)] 28 1)
 (.item (.bind 115 [(.v 14)] 29 1)
 (.item (.pre (.op1 .not (.op2 .or (.op2 .lt (.v 10) (.ki (1))) (.op2 .lt (.ki (4)) (.v 10)))) 114 [(.v 11), (.kb true)])
 (.item (.pre (.op1 .not (.op2 .or (.op2 .or (.op2 .lt (.v 10) (.ki (1))) (.op2 .lt (.ki (4)) (.v 10))) (.op1 .not (.op2 .eq (.v 23) (.ki (0)))))) 115 [(.v 12)])
 (.item (.pre (.op1 .not (.op2 .or (.op2 .or (.op2 .or (.op2 .lt (.v 10) (.ki (1))) (.op2 .lt (.ki (4)) (.v 10))) (.op1 .not (.op2 .eq (.v 23) (.ki (0))))) (.op1 .not (.v 24)))) 115 [(.v 13)])
 (.item (.pre (.op1 .not (.op2 .or (.op2 .or (.op2 .or (.op2 .or (.op2 .lt (.v 10) (.ki (1))) (.op2 .lt (.ki (4)) (.v 10))) (.op1 .not (.op2 .eq (.v 23) (.ki (0))))) (.op1 .not (.v 24))) (.op1 .not (.v 25)))) 115 [(.v 15)])
 (.item (.pre (.op1 .not (.op2 .or (.op2 .or (.op2 .or (.op2 .or (.op2 .or (.op2 .lt (.v 10) (.ki (1))) (.op2 .lt (.ki (4)) (.v 10))) (.op1 .not (.op2 .eq (.v 23) (.ki (0))))) (.op1 .not (.v 24))) (.op1 .not (.v 25))) (.op1 .not (.v 26)))) 115 [(.v 19)])
 (.item (.pre (.op1 .not (.op2 .or (.op2 .or (.op2 .or (.op2 .or (.op2 .or (.op2 .or (.op2 .lt (.v 10) (.ki (1))) (.op2 .lt (.ki (4)) (.v 10))) (.op1 .not (.op2 .eq (.v 23) (.ki (0))))) (.op1 .not (.v 24))) (.op1 .not (.v 25))) (.op1 .not (.v 26))) (.op1 .not (.v 27)))) 115 [(.v 20)])
 (.item (.pre (.op1 .not (.op2 .or (.op2 .or (.op2 .or (.op2 .or (.op2 .or (.op2 .or (.op2 .or (.op2 .lt (.v 10) (.ki (1))) (.op2 .lt (.ki (4)) (.v 10))) (.op1 .not (.op2 .eq (.v 23) (.ki (0))))) (.op1 .not (.v 24))) (.op1 .not (.v 25))) (.op1 .not (.v 26))) (.op1 .not (.v 27))) (.op1 .not (.v 28)))) 115 [(.v 14)])
 (.ite (.op2 .or (.op2 .or (.op2 .or (.op2 .or (.op2 .or (.op2 .or (.op2 .or (.op2 .or (.op2 .lt (.v 10) (.ki (1))) (.op2 .lt (.ki (4)) (.v 10))) (.op1 .not (.op2 .eq (.v 23) (.ki (0))))) (.op1 .not (.v 24))) (.op1 .not (.v 25))) (.op1 .not (.v 26))) (.op1 .not (.v 27))) (.op1 .not (.v 28))) (.op1 .not (.v 29)))
  (.leaf [(I64, (.ki (230)))])
  (.loop 30 1 [(.ki (0))]
   (.ite (.op2 .lt (.v 30) (.len (.v 11)))
    (.item (.need (.op2 .le (.ki (0)) (.v 30)))
    (.item (.need (.op2 .lt (.v 30) (.len (.v 11))))
    (.item (.need (.op2 .or (.op1 .not (.op1 .not (.op2 .lt (.ki (1099511627776)) (.op2 (.rd 1) (.v 11) (.v 30))))) (.op2 .le (.ki (0)) (.v 30))))
    (.item (.need (.op2 .or (.op1 .not (.op1 .not (.op2 .lt (.ki (1099511627776)) (.op2 (.rd 1) (.v 11) (.v 30))))) (.op2 .lt (.v 30) (.len (.v 11)))))
    (.ite (.op2 .or (.op2 .lt (.ki (1099511627776)) (.op2 (.rd 1) (.v 11) (.v 30))) (.op2 .lt (.v 14) (.op2 (.rd 0) (.v 11) (.v 30))))
     (.leaf [(I64, (.ki (230)))])
     (.next 0 [(.op1 (.wrap .i64) (.op2 .add (.v 30) (.ki (1))))]))))))
    (.item (.bind 66 [(.v 21)] 31 1)
    (.item (.pre (.op1 .not (.op2 .or (.op2 .or (.op2 .or (.op2 .or (.op2 .or (.op2 .lt (.v 16) (.ki (0))) (.op2 .lt (.ki (1099511627776)) (.v 16))) (.op2 .lt (.v 17) (.ki (0)))) (.op2 .lt (.ki (3)) (.v 17))) (.op2 .lt (.v 18) (.ki (0)))) (.op2 .lt (.ki (7)) (.v 18)))) 66 [(.v 21)])
    (.ite (.op2 .or (.op2 .or (.op2 .or (.op2 .or (.op2 .or (.op2 .or (.op2 .lt (.v 16) (.ki (0))) (.op2 .lt (.ki (1099511627776)) (.v 16))) (.op2 .lt (.v 17) (.ki (0)))) (.op2 .lt (.ki (3)) (.v 17))) (.op2 .lt (.v 18) (.ki (0)))) (.op2 .lt (.ki (7)) (.v 18))) (.op1 .not (.v 31)))
     (.leaf [(I64, (.ki (230)))])
     (.leaf [(I64, (.ki (0)))]))))))))))))))))))))))))
theorem c94 : compile Go.Proofs.Try.prog [s66, s74, s114, s115] Go.Proofs.Try.f94 s94.params s94.results = some t94 := by kernel_rfl
def L94 : List (Nat × (List LV → List LV)) := [(66, F66), (74, F74), (114, F114), (115, F115)]
def M94 : List (Nat × (List LV → Prop)) := [(114, R114)]
theorem h94 : ∀ sg, sg ∈ [s66, s74, s114, s115] → ConOk Go.Proofs.Try.prog (ap L94) (apR M94) sg := by
  intro sg h
  simp only [List.mem_cons, List.not_mem_nil, or_false] at h
  rcases h with rfl | rfl | rfl | rfl
  · exact k66.to rfl rfl
  · exact k74.to rfl rfl
  · exact k114.to rfl rfl
  · exact k115.to rfl rfl
set_option maxRecDepth 100000 in
theorem k94 : Kon Go.Proofs.Try.prog s94 F94 R94 := by
  refine con_ok h94 (by kernel_rfl) Go.Proofs.Try.func94 (by kernel_rfl) c94 ?_
  intro ls _ hr
  simp only [R94, R53, Short] at hr
  simp only [t94, Tr.den, L94, M94, ap, apR, if_true, Nat.reduceEqDiff, if_false, List.map_cons, List.map_nil, E.den, O1.ev, ev_add, ev_sub, ev_mul, ev_quo, ev_rem, ev_mx, ev_mn, ev_shl, ev_shr, ev_bit, ev_lt, ev_le, ev_eq, ev_and, ev_or, ev_eqb, ev_cat, ev_rcons, ev_rd, SameL, Col.same, List.nil_append, nextAt]
  simp only [setE_lt, setE_hit, Nat.reduceLT, Nat.reduceLeDiff, Nat.reduceAdd, Nat.reduceSub]
  simp only [E74, E115, E66, F114, E116]
  simp only [LV.Ii, LV.Bb, LV.Ll]
  simp only [F94, F53, outOf_z, LV.Ii, implies_true, true_and]
  by_cases h1 : BbrPlain (outOf ls) ∧ NoCubic (outOf ls)
  case neg =>
    rw [if_pos (by
      simp only [Bool.or_eq_true, Bool.and_eq_true, Bool.not_eq_true', tf_t, tf_f, Bool.or_eq_false_iff, Bool.and_eq_false_iff, not_true_eq_false, not_false_eq_true, false_or, or_false, true_or, or_true, true_and, and_true]
      simp only [BbrPlain, NoCubic, NoBbr, outOf_z, outOf_s] at h1 ⊢
      simp only [reduceCtorEq, false_implies, true_implies, true_and, and_true]
      omega)]
    exact ⟨choose230' (fun h => h1 ⟨h.1, h.2.1⟩), trivial⟩
  rw [if_neg (by
      simp only [Bool.or_eq_true, Bool.and_eq_true, Bool.not_eq_true', tf_t, tf_f, Bool.or_eq_false_iff, Bool.and_eq_false_iff, not_true_eq_false, not_false_eq_true, false_or, or_false, true_or, or_true, true_and, and_true]
      simp only [BbrPlain, NoCubic, NoBbr, outOf_z, outOf_s] at h1 ⊢
      simp only [reduceCtorEq, false_implies, true_implies, true_and, and_true]
      omega)]
  obtain ⟨h1, h2⟩ := h1
  refine ⟨fun _ => hr, ?_⟩
  by_cases hF : FOk (outOf ls 11).L true
  case neg =>
    rw [if_pos (by simp only [if_neg hF]; simp [tf_d])]
    exact ⟨choose230' (fun h => hF h.2.2.2.1), trivial⟩
  simp only [if_pos hF]
  by_cases h3 : (TimeI (outOf ls 12).I ∧ TimeI (outOf ls 13).I ∧ TimeI (outOf ls 15).I ∧ TimeI (outOf ls 19).I ∧ TimeI (outOf ls 20).I ∧ TimeI (outOf ls 14).I) ∧ 1 ≤ (outOf ls 10).I ∧ (outOf ls 10).I ≤ 4
  case neg =>
    rw [if_pos (by simp only [TimeI] at h3; first | (simp only [Bool.or_eq_true, Bool.and_eq_true, Bool.not_eq_true', tf_t, tf_f, Bool.or_eq_false_iff, Bool.and_eq_false_iff, not_true_eq_false, not_false_eq_true, false_or, or_false, true_or, or_true, true_and, and_true]; done) | (simp only [Bool.or_eq_true, Bool.and_eq_true, Bool.not_eq_true', tf_t, tf_f, Bool.or_eq_false_iff, Bool.and_eq_false_iff, not_true_eq_false, not_false_eq_true, false_or, or_false, true_or, or_true, true_and, and_true]; omega))]
    exact ⟨choose230' (fun h => h3 ⟨h.2.2.1.1, h.2.2.1.2.2.2.2.2⟩), trivial⟩
  rw [if_neg (by simp only [TimeI] at h3; first | (simp only [Bool.or_eq_true, Bool.and_eq_true, Bool.not_eq_true', tf_t, tf_f, Bool.or_eq_false_iff, Bool.and_eq_false_iff, not_true_eq_false, not_false_eq_true, false_or, or_false, true_or, or_true, true_and, and_true]; done) | (simp only [Bool.or_eq_true, Bool.and_eq_true, Bool.not_eq_true', tf_t, tf_f, Bool.or_eq_false_iff, Bool.and_eq_false_iff, not_true_eq_false, not_false_eq_true, false_or, or_false, true_or, or_true, true_and, and_true]; omega))]
  generalize hL : (outOf ls 11).L = rows at *
  refine loop_ok (fun xs => ∃ i : Nat, xs = [.i i] ∧ i ≤ rows.length ∧ ∀ j, j < i → vR rows j ≤ 1099511627776 ∧ atR rows j ≤ (outOf ls 14).I) (fun xs => rows.length - (outOf xs 0).I.toNat) ?_ ⟨0, rfl, by omega, fun j h => by omega⟩
  rintro xs ih ⟨i, rfl, hi, hall⟩ hih
  simp only [outOf_z, LV.Ii, Int.toNat_natCast]
  have ha : ∀ j, ((rows.getD j []).getD 0 (.i 0)).I = atR rows j := fun _ => rfl
  have hv : ∀ j, ((rows.getD j []).getD 1 (.i 0)).I = vR rows j := fun _ => rfl
  simp only [ha]
  by_cases hlt : (i : Int) < rows.length
  case neg =>
    rw [if_neg (fun h => hlt ((tf_t _).mp h))]
    have hall' : EOk rows (outOf ls 14).I := fun j hj => hall j (by omega)
    by_cases h4 : (0 ≤ (outOf ls 16).I ∧ (outOf ls 16).I ≤ 1099511627776) ∧ (0 ≤ (outOf ls 17).I ∧ (outOf ls 17).I ≤ 3) ∧ (0 ≤ (outOf ls 18).I ∧ (outOf ls 18).I ≤ 7) ∧ SizeI (outOf ls 21).I
    · rw [if_neg (by simp only [SizeI] at h4; first | (simp only [Bool.or_eq_true, Bool.and_eq_true, Bool.not_eq_true', tf_t, tf_f, Bool.or_eq_false_iff, Bool.and_eq_false_iff, not_true_eq_false, not_false_eq_true, false_or, or_false, true_or, or_true, true_and, and_true]; done) | (simp only [Bool.or_eq_true, Bool.and_eq_true, Bool.not_eq_true', tf_t, tf_f, Bool.or_eq_false_iff, Bool.and_eq_false_iff, not_true_eq_false, not_false_eq_true, false_or, or_false, true_or, or_true, true_and, and_true]; omega))]
      exact ⟨choose0 ⟨h1, h2, ⟨h3.1, h4.1, h4.2.1, h4.2.2.1, h4.2.2.2, h3.2⟩, by rw [hL]; exact hF, by rw [hL]; exact hall'⟩ _, trivial⟩
    · rw [if_pos (by simp only [SizeI] at h4; first | (simp only [Bool.or_eq_true, Bool.and_eq_true, Bool.not_eq_true', tf_t, tf_f, Bool.or_eq_false_iff, Bool.and_eq_false_iff, not_true_eq_false, not_false_eq_true, false_or, or_false, true_or, or_true, true_and, and_true]; done) | (simp only [Bool.or_eq_true, Bool.and_eq_true, Bool.not_eq_true', tf_t, tf_f, Bool.or_eq_false_iff, Bool.and_eq_false_iff, not_true_eq_false, not_false_eq_true, false_or, or_false, true_or, or_true, true_and, and_true]; omega))]
      exact ⟨choose230' (fun h => h4 ⟨h.2.2.1.2.1, h.2.2.1.2.2.1, h.2.2.1.2.2.2.1, h.2.2.1.2.2.2.2.1⟩), trivial⟩
  rw [if_pos ((tf_t _).mpr hlt)]
  have hlt' : i < rows.length := by omega
  have ej : IntKind.i64.wrap ((i : Int) + 1) = ((i + 1 : Nat) : Int) := by rw [wrap_i64 (by omega) (by omega)]; omega
  rw [ej]
  have n0 : tf ((0 : Int) ≤ i) = true := (tf_t _).mpr (by omega)
  have n3 : tf ((i : Int) < rows.length) = true := (tf_t _).mpr hlt
  simp only [n0, n3, Bool.or_true, true_and, implies_true, and_true]
  have hnext : vR rows i ≤ 1099511627776 ∧ atR rows i ≤ (outOf ls 14).I → ih [.i ((i + 1 : Nat) : Int)] := fun h => hih _ ⟨i + 1, rfl, by omega, fun j hj => by
    rcases Nat.lt_succ_iff_lt_or_eq.mp hj with h1 | h1
    · exact hall j h1
    · rw [h1]; exact h⟩ (by simp only [outOf_z, LV.Ii]; omega)
  by_cases hat : vR rows i ≤ 1099511627776 ∧ atR rows i ≤ (outOf ls 14).I
  · rw [if_neg (by simp only [Bool.or_eq_true, Bool.and_eq_true, Bool.not_eq_true', tf_t, tf_f, Bool.or_eq_false_iff, Bool.and_eq_false_iff, ha, hv]; omega)]
    exact hnext hat
  · rw [if_pos (by simp only [Bool.or_eq_true, Bool.and_eq_true, Bool.not_eq_true', tf_t, tf_f, Bool.or_eq_false_iff, Bool.and_eq_false_iff, ha, hv]; omega)]
    exact choose230' (fun h => hat (by have := h.2.2.2.2; rw [hL] at this; exact this i hlt'))
/-! ### The bandwidth, the gain -/
abbrev bwI (rows : List (List LV)) : Int := vR rows 0
def F120 (ls : List LV) : List LV := [.i (bwI (outOf ls 0).L), .b (decide ((outOf ls 0).L ≠ []))]
abbrev F126 := F120
def F104 (ls : List LV) : List LV := [.i (bwI (outOf ls 11).L)]
abbrev F113 := F104
def gainI (mode phase : Int) : Int := if mode = 1 then 289 else if mode = 2 then 35 else if mode = 3 ∧ phase = 0 then 125 else if mode = 3 ∧ phase = 1 then 75 else 100
def F89 (ls : List LV) : List LV := [.i (if BbrOk (outOf ls) then gainI (outOf ls 10).I (outOf ls 18).I else 0)]
abbrev F91 := F89
def F56 (ls : List LV) : List LV := [.i (if BbrOk (outOf ls) then bwI (outOf ls 11).L else 0)]
abbrev F92 := F56
abbrev R89 := R53
abbrev R91 := R53
abbrev R56 := R53
abbrev R92 := R53

/-! tideway/filter.Best -/
def s120 : Sig := ⟨120, 120, [.col (.sl [(.int .i64), (.int .i64)])], [.col I64, .col (.base .bool)]⟩
def t120 : Tr (List (Col × E)) :=
 (.ite (.op2 .eq (.len (.v 0)) (.ki (0)))
 (.leaf [(I64, (.ki (0))), ((.base .bool), (.kb false))])
 (.item (.need (.op2 .le (.ki (0)) (.ki (0))))
 (.item (.need (.op2 .lt (.ki (0)) (.len (.v 0))))
 (.leaf [(I64, (.op2 (.rd 1) (.v 0) (.ki (0)))), ((.base .bool), (.kb true))]))))
theorem c120 : compile Go.Proofs.Try.prog [] Go.Proofs.Try.f120 s120.params s120.results = some t120 := by kernel_rfl
def L120 : List (Nat × (List LV → List LV)) := []
def M120 : List (Nat × (List LV → Prop)) := []
theorem h120 : ∀ sg, sg ∈ ([] : List Sig) → ConOk Go.Proofs.Try.prog (ap L120) (apR M120) sg := fun _ h => absurd h (List.not_mem_nil)
set_option maxRecDepth 100000 in
theorem k120 : Kon Go.Proofs.Try.prog s120 F120 (fun _ => True) := by
  refine con_ok h120 (by kernel_rfl) Go.Proofs.Try.func120 (by kernel_rfl) c120 ?_
  intro ls _ _
  simp only [t120, Tr.den, L120, M120, ap, apR, if_true, Nat.reduceEqDiff, if_false, List.map_cons, List.map_nil, E.den, O1.ev, ev_add, ev_sub, ev_mul, ev_quo, ev_rem, ev_mx, ev_mn, ev_shl, ev_shr, ev_bit, ev_lt, ev_le, ev_eq, ev_and, ev_or, ev_eqb, ev_cat, ev_rcons, ev_rd, SameL, Col.same]
  simp only [setE_lt, setE_hit, Nat.reduceLT, Nat.reduceLeDiff, Nat.reduceAdd, Nat.reduceSub]
  simp only [LV.Ii, LV.Bb, LV.Ll]
  simp only [F126, F120, outOf_z, outOf_s, LV.Ii, LV.Bb, LV.Ll]
  have hv : ∀ r : List (List LV), ((r.getD (0 : Int).toNat []).getD 1 (.i 0)).I = vR r 0 := fun _ => rfl
  simp only [hv]
  generalize (outOf ls 0).L = rows at *
  cases rows with
  | nil => rw [if_pos (by simp [tf_d])]; simp [vR]
  | cons r rs =>
    rw [if_neg (by simp [tf_d] <;> omega)]
    exact ⟨(tf_t _).mpr (by omega), (tf_t _).mpr (by simp <;> omega), by simp⟩
/-! tideway/tidewayref12.Best -/
def s126 : Sig := ⟨126, 126, [.col (.sl [(.int .i64), (.int .i64)])], [.col I64, .col (.base .bool)]⟩
def t126 : Tr (List (Col × E)) :=
 (.ite (.op2 .eq (.len (.v 0)) (.ki (0)))
 (.leaf [(I64, (.ki (0))), ((.base .bool), (.kb false))])
 (.item (.need (.op2 .le (.ki (0)) (.ki (0))))
 (.item (.need (.op2 .lt (.ki (0)) (.len (.v 0))))
 (.leaf [(I64, (.op2 (.rd 1) (.v 0) (.ki (0)))), ((.base .bool), (.kb true))]))))
theorem c126 : compile Go.Proofs.Try.prog [] Go.Proofs.Try.f126 s126.params s126.results = some t126 := by kernel_rfl
def L126 : List (Nat × (List LV → List LV)) := []
def M126 : List (Nat × (List LV → Prop)) := []
theorem h126 : ∀ sg, sg ∈ ([] : List Sig) → ConOk Go.Proofs.Try.prog (ap L126) (apR M126) sg := fun _ h => absurd h (List.not_mem_nil)
set_option maxRecDepth 100000 in
theorem k126 : Kon Go.Proofs.Try.prog s126 F126 (fun _ => True) := by
  refine con_ok h126 (by kernel_rfl) Go.Proofs.Try.func126 (by kernel_rfl) c126 ?_
  intro ls _ _
  simp only [t126, Tr.den, L126, M126, ap, apR, if_true, Nat.reduceEqDiff, if_false, List.map_cons, List.map_nil, E.den, O1.ev, ev_add, ev_sub, ev_mul, ev_quo, ev_rem, ev_mx, ev_mn, ev_shl, ev_shr, ev_bit, ev_lt, ev_le, ev_eq, ev_and, ev_or, ev_eqb, ev_cat, ev_rcons, ev_rd, SameL, Col.same]
  simp only [setE_lt, setE_hit, Nat.reduceLT, Nat.reduceLeDiff, Nat.reduceAdd, Nat.reduceSub]
  simp only [LV.Ii, LV.Bb, LV.Ll]
  simp only [F126, F120, outOf_z, outOf_s, LV.Ii, LV.Bb, LV.Ll]
  have hv : ∀ r : List (List LV), ((r.getD (0 : Int).toNat []).getD 1 (.i 0)).I = vR r 0 := fun _ => rfl
  simp only [hv]
  generalize (outOf ls 0).L = rows at *
  cases rows with
  | nil => rw [if_pos (by simp [tf_d])]; simp [vR]
  | cons r rs =>
    rw [if_neg (by simp [tf_d] <;> omega)]
    exact ⟨(tf_t _).mpr (by omega), (tf_t _).mpr (by simp <;> omega), by simp⟩
/-! (*tideway/bbr.ctl).bandwidth -/
def s104 : Sig := ⟨104, 104, [.ptr false [I64, I64, I64, I64, I64, I64, I64, I64, I64, I64, I64, (.sl [(.int .i64), (.int .i64)]), I64, I64, I64, I64, I64, I64, I64, I64, I64, I64]], [.col I64]⟩
def t104 : Tr (List (Col × E)) :=
 (.item (.bind 120 [(.v 11)] 22 2)
 (.item (.pre (.kb true) 120 [(.v 11)])
 (.leaf [(I64, (.v 22))])))
theorem c104 : compile Go.Proofs.Try.prog [s120] Go.Proofs.Try.f104 s104.params s104.results = some t104 := by kernel_rfl
def L104 : List (Nat × (List LV → List LV)) := [(120, F120)]
def M104 : List (Nat × (List LV → Prop)) := []
theorem h104 : ∀ sg, sg ∈ [s120] → ConOk Go.Proofs.Try.prog (ap L104) (apR M104) sg := by
  intro sg h
  simp only [List.mem_cons, List.not_mem_nil, or_false] at h
  rcases h with rfl
  · exact k120.to rfl rfl
set_option maxRecDepth 100000 in
theorem k104 : Kon Go.Proofs.Try.prog s104 F104 (fun _ => True) := by
  refine con_ok h104 (by kernel_rfl) Go.Proofs.Try.func104 (by kernel_rfl) c104 ?_
  intro ls _ _
  simp only [t104, Tr.den, L104, M104, ap, apR, if_true, Nat.reduceEqDiff, if_false, List.map_cons, List.map_nil, E.den, O1.ev, ev_add, ev_sub, ev_mul, ev_quo, ev_rem, ev_mx, ev_mn, ev_shl, ev_shr, ev_bit, ev_lt, ev_le, ev_eq, ev_and, ev_or, ev_eqb, ev_cat, ev_rcons, ev_rd, SameL, Col.same]
  simp only [setE_lt, setE_hit, Nat.reduceLT, Nat.reduceLeDiff, Nat.reduceAdd, Nat.reduceSub]
  simp only [F113, F104, F126, F120, outOf_z, outOf_s, implies_true, true_and, and_self]
/-! tideway/tidewayref18.bandwidth -/
def s113 : Sig := ⟨113, 113, [.agg [I64, I64, I64, I64, I64, I64, I64, I64, I64, I64, I64, (.sl [(.int .i64), (.int .i64)]), I64, I64, I64, I64, I64, I64, I64, I64, I64, I64]], [.col I64]⟩
def t113 : Tr (List (Col × E)) :=
 (.item (.bind 126 [(.v 11)] 22 2)
 (.item (.pre (.kb true) 126 [(.v 11)])
 (.leaf [(I64, (.v 22))])))
theorem c113 : compile Go.Proofs.Try.prog [s126] Go.Proofs.Try.f113 s113.params s113.results = some t113 := by kernel_rfl
def L113 : List (Nat × (List LV → List LV)) := [(126, F126)]
def M113 : List (Nat × (List LV → Prop)) := []
theorem h113 : ∀ sg, sg ∈ [s126] → ConOk Go.Proofs.Try.prog (ap L113) (apR M113) sg := by
  intro sg h
  simp only [List.mem_cons, List.not_mem_nil, or_false] at h
  rcases h with rfl
  · exact k126.to rfl rfl
set_option maxRecDepth 100000 in
theorem k113 : Kon Go.Proofs.Try.prog s113 F113 (fun _ => True) := by
  refine con_ok h113 (by kernel_rfl) Go.Proofs.Try.func113 (by kernel_rfl) c113 ?_
  intro ls _ _
  simp only [t113, Tr.den, L113, M113, ap, apR, if_true, Nat.reduceEqDiff, if_false, List.map_cons, List.map_nil, E.den, O1.ev, ev_add, ev_sub, ev_mul, ev_quo, ev_rem, ev_mx, ev_mn, ev_shl, ev_shr, ev_bit, ev_lt, ev_le, ev_eq, ev_and, ev_or, ev_eqb, ev_cat, ev_rcons, ev_rd, SameL, Col.same]
  simp only [setE_lt, setE_hit, Nat.reduceLT, Nat.reduceLeDiff, Nat.reduceAdd, Nat.reduceSub]
  simp only [F113, F104, F126, F120, outOf_z, outOf_s, implies_true, true_and, and_self]
/-! tideway/bbr.Bandwidth -/
def s56 : Sig := ⟨56, 56, [.agg [I64, I64, I64, I64, I64, I64, I64, I64, I64, I64, I64, (.sl [(.int .i64), (.int .i64)]), I64, I64, I64, I64, I64, I64, I64, I64, I64, I64]], [.col I64]⟩
def t56 : Tr (List (Col × E)) :=
 (.item (.bind 53 [(.v 0), (.v 1), (.v 2), (.v 3), (.v 4), (.v 5), (.v 6), (.v 7), (.v 8), (.v 9), (.v 10), (.v 11), (.v 12), (.v 13), (.v 14), (.v 15), (.v 16), (.v 17), (.v 18), (.v 19), (.v 20), (.v 21)] 22 1)
 (.item (.pre (.kb true) 53 [(.v 0), (.v 1), (.v 2), (.v 3), (.v 4), (.v 5), (.v 6), (.v 7), (.v 8), (.v 9), (.v 10), (.v 11), (.v 12), (.v 13), (.v 14), (.v 15), (.v 16), (.v 17), (.v 18), (.v 19), (.v 20), (.v 21)])
 (.ite (.op1 .not (.op2 .eq (.v 22) (.ki (0))))
 (.leaf [(I64, (.ki (0)))])
 (.item (.bind 104 [(.v 0), (.v 1), (.v 2), (.v 3), (.v 4), (.v 5), (.v 6), (.v 7), (.v 8), (.v 9), (.v 10), (.v 11), (.v 12), (.v 13), (.v 14), (.v 15), (.v 16), (.v 17), (.v 18), (.v 19), (.v 20), (.v 21)] 23 1)
 (.item (.pre (.kb true) 104 [(.v 0), (.v 1), (.v 2), (.v 3), (.v 4), (.v 5), (.v 6), (.v 7), (.v 8), (.v 9), (.v 10), (.v 11), (.v 12), (.v 13), (.v 14), (.v 15), (.v 16), (.v 17), (.v 18), (.v 19), (.v 20), (.v 21)])
 (.leaf [(I64, (.v 23))]))))))
theorem c56 : compile Go.Proofs.Try.prog [s53, s104] Go.Proofs.Try.f56 s56.params s56.results = some t56 := by kernel_rfl
def L56 : List (Nat × (List LV → List LV)) := [(53, F53), (104, F104)]
def M56 : List (Nat × (List LV → Prop)) := [(53, R53)]
theorem h56 : ∀ sg, sg ∈ [s53, s104] → ConOk Go.Proofs.Try.prog (ap L56) (apR M56) sg := by
  intro sg h
  simp only [List.mem_cons, List.not_mem_nil, or_false] at h
  rcases h with rfl | rfl
  · exact k53.to rfl rfl
  · exact k104.to rfl rfl
set_option maxRecDepth 100000 in
theorem k56 : Kon Go.Proofs.Try.prog s56 F56 R56 := by
  refine con_ok h56 (by kernel_rfl) Go.Proofs.Try.func56 (by kernel_rfl) c56 ?_
  intro ls _ hr
  simp only [t56, Tr.den, L56, M56, ap, apR, if_true, Nat.reduceEqDiff, if_false, List.map_cons, List.map_nil, E.den, O1.ev, ev_add, ev_sub, ev_mul, ev_quo, ev_rem, ev_mx, ev_mn, ev_shl, ev_shr, ev_bit, ev_lt, ev_le, ev_eq, ev_and, ev_or, ev_eqb, ev_cat, ev_rcons, ev_rd, SameL, Col.same]
  simp only [setE_lt, setE_hit, Nat.reduceLT, Nat.reduceLeDiff, Nat.reduceAdd, Nat.reduceSub]
  simp only [F94, E53]
  simp only [bok22 (outOf ls)]
  simp only [LV.Ii, LV.Bb, LV.Ll]
  simp only [F92, F56, F113, F104, outOf_z, outOf_s, LV.Ii]
  refine ⟨fun _ => R53_ok (outOf ls) hr, ?_⟩
  by_cases hok : BbrOk (outOf ls)
  · rw [if_pos hok, if_neg (by simp [tf_d]), if_pos hok]
    exact ⟨fun _ => trivial, rfl, trivial⟩
  · rw [if_neg hok, if_pos (by simp [tf_d]), if_neg hok]
    exact ⟨rfl, trivial⟩
/-! tideway/tidewayref18.Bandwidth -/
def s92 : Sig := ⟨92, 92, [.agg [I64, I64, I64, I64, I64, I64, I64, I64, I64, I64, I64, (.sl [(.int .i64), (.int .i64)]), I64, I64, I64, I64, I64, I64, I64, I64, I64, I64]], [.col I64]⟩
def t92 : Tr (List (Col × E)) :=
 (.item (.bind 94 [(.v 0), (.v 1), (.v 2), (.v 3), (.v 4), (.v 5), (.v 6), (.v 7), (.v 8), (.v 9), (.v 10), (.v 11), (.v 12), (.v 13), (.v 14), (.v 15), (.v 16), (.v 17), (.v 18), (.v 19), (.v 20), (.v 21)] 22 1)
 (.item (.pre (.kb true) 94 [(.v 0), (.v 1), (.v 2), (.v 3), (.v 4), (.v 5), (.v 6), (.v 7), (.v 8), (.v 9), (.v 10), (.v 11), (.v 12), (.v 13), (.v 14), (.v 15), (.v 16), (.v 17), (.v 18), (.v 19), (.v 20), (.v 21)])
 (.ite (.op1 .not (.op2 .eq (.v 22) (.ki (0))))
 (.leaf [(I64, (.ki (0)))])
 (.item (.bind 113 [(.v 0), (.v 1), (.v 2), (.v 3), (.v 4), (.v 5), (.v 6), (.v 7), (.v 8), (.v 9), (.v 10), (.v 11), (.v 12), (.v 13), (.v 14), (.v 15), (.v 16), (.v 17), (.v 18), (.v 19), (.v 20), (.v 21)] 23 1)
 (.item (.pre (.kb true) 113 [(.v 0), (.v 1), (.v 2), (.v 3), (.v 4), (.v 5), (.v 6), (.v 7), (.v 8), (.v 9), (.v 10), (.v 11), (.v 12), (.v 13), (.v 14), (.v 15), (.v 16), (.v 17), (.v 18), (.v 19), (.v 20), (.v 21)])
 (.leaf [(I64, (.v 23))]))))))
theorem c92 : compile Go.Proofs.Try.prog [s94, s113] Go.Proofs.Try.f92 s92.params s92.results = some t92 := by kernel_rfl
def L92 : List (Nat × (List LV → List LV)) := [(94, F94), (113, F113)]
def M92 : List (Nat × (List LV → Prop)) := [(94, R94)]
theorem h92 : ∀ sg, sg ∈ [s94, s113] → ConOk Go.Proofs.Try.prog (ap L92) (apR M92) sg := by
  intro sg h
  simp only [List.mem_cons, List.not_mem_nil, or_false] at h
  rcases h with rfl | rfl
  · exact k94.to rfl rfl
  · exact k113.to rfl rfl
set_option maxRecDepth 100000 in
theorem k92 : Kon Go.Proofs.Try.prog s92 F92 R92 := by
  refine con_ok h92 (by kernel_rfl) Go.Proofs.Try.func92 (by kernel_rfl) c92 ?_
  intro ls _ hr
  simp only [t92, Tr.den, L92, M92, ap, apR, if_true, Nat.reduceEqDiff, if_false, List.map_cons, List.map_nil, E.den, O1.ev, ev_add, ev_sub, ev_mul, ev_quo, ev_rem, ev_mx, ev_mn, ev_shl, ev_shr, ev_bit, ev_lt, ev_le, ev_eq, ev_and, ev_or, ev_eqb, ev_cat, ev_rcons, ev_rd, SameL, Col.same]
  simp only [setE_lt, setE_hit, Nat.reduceLT, Nat.reduceLeDiff, Nat.reduceAdd, Nat.reduceSub]
  simp only [F94, E53]
  simp only [bok22 (outOf ls)]
  simp only [LV.Ii, LV.Bb, LV.Ll]
  simp only [F92, F56, F113, F104, outOf_z, outOf_s, LV.Ii]
  refine ⟨fun _ => R53_ok (outOf ls) hr, ?_⟩
  by_cases hok : BbrOk (outOf ls)
  · rw [if_pos hok, if_neg (by simp [tf_d]), if_pos hok]
    exact ⟨fun _ => trivial, rfl, trivial⟩
  · rw [if_neg hok, if_pos (by simp [tf_d]), if_neg hok]
    exact ⟨rfl, trivial⟩
/-! tideway/bbr.Gain -/
def s89 : Sig := ⟨89, 89, [.agg [I64, I64, I64, I64, I64, I64, I64, I64, I64, I64, I64, (.sl [(.int .i64), (.int .i64)]), I64, I64, I64, I64, I64, I64, I64, I64, I64, I64]], [.col I64]⟩
def t89 : Tr (List (Col × E)) :=
 (.item (.bind 53 [(.v 0), (.v 1), (.v 2), (.v 3), (.v 4), (.v 5), (.v 6), (.v 7), (.v 8), (.v 9), (.v 10), (.v 11), (.v 12), (.v 13), (.v 14), (.v 15), (.v 16), (.v 17), (.v 18), (.v 19), (.v 20), (.v 21)] 22 1)
 (.item (.pre (.kb true) 53 [(.v 0), (.v 1), (.v 2), (.v 3), (.v 4), (.v 5), (.v 6), (.v 7), (.v 8), (.v 9), (.v 10), (.v 11), (.v 12), (.v 13), (.v 14), (.v 15), (.v 16), (.v 17), (.v 18), (.v 19), (.v 20), (.v 21)])
 (.ite (.op1 .not (.op2 .eq (.v 22) (.ki (0))))
 (.leaf [(I64, (.ki (0)))])
 (.ite (.op2 .eq (.v 10) (.ki (1)))
  (.leaf [(I64, (.ki (289)))])
  (.ite (.op2 .eq (.v 10) (.ki (2)))
   (.leaf [(I64, (.ki (35)))])
   (.ite (.op2 .and (.op2 .eq (.v 10) (.ki (3))) (.op2 .eq (.v 18) (.ki (0))))
    (.leaf [(I64, (.ki (125)))])
    (.ite (.op2 .and (.op2 .eq (.v 10) (.ki (3))) (.op2 .eq (.v 18) (.ki (1))))
     (.leaf [(I64, (.ki (75)))])
     (.leaf [(I64, (.ki (100)))]))))))))
theorem c89 : compile Go.Proofs.Try.prog [s53] Go.Proofs.Try.f89 s89.params s89.results = some t89 := by kernel_rfl
def L89 : List (Nat × (List LV → List LV)) := [(53, F53)]
def M89 : List (Nat × (List LV → Prop)) := [(53, R53)]
theorem h89 : ∀ sg, sg ∈ [s53] → ConOk Go.Proofs.Try.prog (ap L89) (apR M89) sg := by
  intro sg h
  simp only [List.mem_cons, List.not_mem_nil, or_false] at h
  rcases h with rfl
  · exact k53.to rfl rfl
set_option maxRecDepth 100000 in
theorem k89 : Kon Go.Proofs.Try.prog s89 F89 R89 := by
  refine con_ok h89 (by kernel_rfl) Go.Proofs.Try.func89 (by kernel_rfl) c89 ?_
  intro ls _ hr
  simp only [t89, Tr.den, L89, M89, ap, apR, if_true, Nat.reduceEqDiff, if_false, List.map_cons, List.map_nil, E.den, O1.ev, ev_add, ev_sub, ev_mul, ev_quo, ev_rem, ev_mx, ev_mn, ev_shl, ev_shr, ev_bit, ev_lt, ev_le, ev_eq, ev_and, ev_or, ev_eqb, ev_cat, ev_rcons, ev_rd, SameL, Col.same]
  simp only [setE_lt, setE_hit, Nat.reduceLT, Nat.reduceLeDiff, Nat.reduceAdd, Nat.reduceSub]
  simp only [E53]
  simp only [bok22 (outOf ls)]
  simp only [LV.Ii, LV.Bb, LV.Ll]
  simp only [F89, outOf_z, outOf_s, LV.Ii]
  refine ⟨fun _ => R53_ok (outOf ls) hr, ?_⟩
  by_cases hok : BbrOk (outOf ls)
  · rw [if_pos hok, if_neg (by simp [tf_d]), if_pos hok]
    simp only [gainI, Bool.or_eq_true, Bool.and_eq_true, Bool.not_eq_true', tf_t, tf_f, Bool.or_eq_false_iff, Bool.and_eq_false_iff]
    split <;> (try split) <;> (try split) <;> (try split) <;> trivial
  · rw [if_neg hok, if_pos (by simp [tf_d]), if_neg hok]
    exact ⟨rfl, trivial⟩
/-! tideway/tidewayref18.Gain -/
def s91 : Sig := ⟨91, 91, [.agg [I64, I64, I64, I64, I64, I64, I64, I64, I64, I64, I64, (.sl [(.int .i64), (.int .i64)]), I64, I64, I64, I64, I64, I64, I64, I64, I64, I64]], [.col I64]⟩
def t91 : Tr (List (Col × E)) :=
 (.item (.bind 94 [(.v 0), (.v 1), (.v 2), (.v 3), (.v 4), (.v 5), (.v 6), (.v 7), (.v 8), (.v 9), (.v 10), (.v 11), (.v 12), (.v 13), (.v 14), (.v 15), (.v 16), (.v 17), (.v 18), (.v 19), (.v 20), (.v 21)] 22 1)
 (.item (.pre (.kb true) 94 [(.v 0), (.v 1), (.v 2), (.v 3), (.v 4), (.v 5), (.v 6), (.v 7), (.v 8), (.v 9), (.v 10), (.v 11), (.v 12), (.v 13), (.v 14), (.v 15), (.v 16), (.v 17), (.v 18), (.v 19), (.v 20), (.v 21)])
 (.ite (.op1 .not (.op2 .eq (.v 22) (.ki (0))))
 (.leaf [(I64, (.ki (0)))])
 (.ite (.op2 .eq (.v 10) (.ki (1)))
  (.leaf [(I64, (.ki (289)))])
  (.ite (.op2 .eq (.v 10) (.ki (2)))
   (.leaf [(I64, (.ki (35)))])
   (.ite (.op2 .eq (.v 10) (.ki (3)))
    (.item (.need (.op2 .le (.ki (0)) (.v 18)))
    (.item (.need (.op2 .lt (.v 18) (.len (.op2 .cat (.op2 .rcons (.ki (125)) .rnil) (.op2 .cat (.op2 .rcons (.ki (75)) .rnil) (.op2 .cat (.op2 .rcons (.ki (100)) .rnil) (.op2 .cat (.op2 .rcons (.ki (100)) .rnil) (.op2 .cat (.op2 .rcons (.ki (100)) .rnil) (.op2 .cat (.op2 .rcons (.ki (100)) .rnil) (.op2 .cat (.op2 .rcons (.ki (100)) .rnil) (.op2 .cat (.op2 .rcons (.ki (100)) .rnil) .lnil)))))))))))
    (.leaf [(I64, (.op2 (.rd 0) (.op2 .cat (.op2 .rcons (.ki (125)) .rnil) (.op2 .cat (.op2 .rcons (.ki (75)) .rnil) (.op2 .cat (.op2 .rcons (.ki (100)) .rnil) (.op2 .cat (.op2 .rcons (.ki (100)) .rnil) (.op2 .cat (.op2 .rcons (.ki (100)) .rnil) (.op2 .cat (.op2 .rcons (.ki (100)) .rnil) (.op2 .cat (.op2 .rcons (.ki (100)) .rnil) (.op2 .cat (.op2 .rcons (.ki (100)) .rnil) .lnil)))))))) (.v 18)))])))
    (.leaf [(I64, (.ki (100)))])))))))
theorem c91 : compile Go.Proofs.Try.prog [s94] Go.Proofs.Try.f91 s91.params s91.results = some t91 := by kernel_rfl
def L91 : List (Nat × (List LV → List LV)) := [(94, F94)]
def M91 : List (Nat × (List LV → Prop)) := [(94, R94)]
theorem h91 : ∀ sg, sg ∈ [s94] → ConOk Go.Proofs.Try.prog (ap L91) (apR M91) sg := by
  intro sg h
  simp only [List.mem_cons, List.not_mem_nil, or_false] at h
  rcases h with rfl
  · exact k94.to rfl rfl
set_option maxRecDepth 100000 in
theorem k91 : Kon Go.Proofs.Try.prog s91 F91 R91 := by
  refine con_ok h91 (by kernel_rfl) Go.Proofs.Try.func91 (by kernel_rfl) c91 ?_
  intro ls _ hr
  simp only [t91, Tr.den, L91, M91, ap, apR, if_true, Nat.reduceEqDiff, if_false, List.map_cons, List.map_nil, E.den, O1.ev, ev_add, ev_sub, ev_mul, ev_quo, ev_rem, ev_mx, ev_mn, ev_shl, ev_shr, ev_bit, ev_lt, ev_le, ev_eq, ev_and, ev_or, ev_eqb, ev_cat, ev_rcons, ev_rd, SameL, Col.same]
  simp only [setE_lt, setE_hit, Nat.reduceLT, Nat.reduceLeDiff, Nat.reduceAdd, Nat.reduceSub]
  simp only [F94, E53]
  simp only [bok22 (outOf ls)]
  simp only [LV.Ii, LV.Bb, LV.Ll]
  simp only [F91, F89, outOf_z, outOf_s, LV.Ii]
  simp only [LV.Ll, List.headD_cons, List.cons_append, List.nil_append]
  refine ⟨fun _ => R53_ok (outOf ls) hr, ?_⟩
  by_cases hok : BbrOk (outOf ls)
  case neg =>
    rw [if_neg hok, if_pos (by simp [tf_d]), if_neg hok]
    exact ⟨rfl, trivial⟩
  rw [if_pos hok, if_neg (by simp [tf_d]), if_pos hok]
  have hp : 0 ≤ (outOf ls 18).I ∧ (outOf ls 18).I ≤ 7 := hok.2.2.1.2.2.2.1
  generalize (outOf ls 18).I = p at *
  generalize (outOf ls 10).I = m at *
  clear hok hr
  simp only [gainI]
  by_cases h1 : m = 1
  · rw [if_pos ((tf_t _).mpr h1), if_pos h1]; trivial
  rw [if_neg (fun h => h1 ((tf_t _).mp h)), if_neg h1]
  by_cases h2 : m = 2
  · rw [if_pos ((tf_t _).mpr h2), if_pos h2]; trivial
  rw [if_neg (fun h => h2 ((tf_t _).mp h)), if_neg h2]
  by_cases h3 : m = 3
  · rw [if_pos ((tf_t _).mpr h3)]
    subst h3
    refine ⟨(tf_t _).mpr hp.1, (tf_t _).mpr (by simp only [List.length_cons, List.length_nil]; omega), ?_⟩
    have : p = 0 ∨ p = 1 ∨ p = 2 ∨ p = 3 ∨ p = 4 ∨ p = 5 ∨ p = 6 ∨ p = 7 := by omega
    rcases this with rfl | rfl | rfl | rfl | rfl | rfl | rfl | rfl <;> exact ⟨rfl, trivial⟩
  · rw [if_neg (fun h => h3 ((tf_t _).mp h)), if_neg (fun h => h3 h.1), if_neg (fun h => h3 h.1)]
    exact ⟨rfl, trivial⟩
end Go.Proofs.Ythhnnfmfeofknaa.Sy
