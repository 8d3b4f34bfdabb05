/-
  filter.Put: what it makes of entries that may be; plain: its rows may be, too.
-/
import Derived.Test.YthhnnfmfeofknaaCs
namespace Go.Proofs.Ythhnnfmfeofknaa.Sy
open Go Go.RowKit
set_option linter.unusedSimpArgs false
set_option linter.unusedVariables false

def skipI (p : Nat → Bool) : Nat → Nat → Nat
  | 0, i => i
  | n + 1, i => if p i = true then skipI p n (i + 1) else i
def backI (q : Nat → Bool) (lo : Nat) : Nat → Nat
  | 0 => 0
  | n + 1 => if lo < n + 1 ∧ q n = true then backI q lo n else n + 1
abbrev Beats (a b : Int) (m : Bool) : Prop := (m = true ∧ b ≤ a) ∨ (m = false ∧ a ≤ b)
def putFrom (rows : List (List LV)) (w at_ : Int) : Nat := skipI (fun i => decide (atR rows i + w < at_)) rows.length 0
def putTo (rows : List (List LV)) (v : Int) (m : Bool) (lo : Nat) : Nat := backI (fun i => decide (Beats v (vR rows i) m)) lo rows.length
def putL (rows : List (List LV)) (a b : LV) (w : Int) (m : Bool) : List (List LV) := (rows.take (putTo rows b.I m (putFrom rows w a.I))).drop (putFrom rows w a.I) ++ [[a, b]]
abbrev PutOk (rows : List (List LV)) (a v w : Int) (m : Bool) : Prop := FOk rows m ∧ EntryOk a v ∧ (0 ≤ w ∧ w ≤ 1125899906842624) ∧ (0 < rows.length → atR rows (rows.length - 1) < a)
instance (rows : List (List LV)) (a v w : Int) (m : Bool) : Decidable (PutOk rows a v w m) := inferInstance
def F118 (ls : List LV) : List LV := if PutOk (outOf ls 0).L (outOf ls 1).I (outOf ls 2).I (outOf ls 3).I (outOf ls 4).B then [.l (putL (outOf ls 0).L (outOf ls 1) (outOf ls 2) (outOf ls 3).I (outOf ls 4).B), .i 0] else [.l [], .i 2]
def R118 (ls : List LV) : Prop := (outOf ls 0).L.length ≤ 8796093022207
theorem skipI_ge (p : Nat → Bool) : ∀ (n i : Nat), i ≤ skipI p n i ∧ skipI p n i ≤ i + n := by
  intro n
  induction n with
  | zero => intro i; simp [skipI]
  | succ n ih =>
    intro i
    simp only [skipI]
    split
    · have := ih (i + 1); omega
    · omega
theorem skipI_stop (p : Nat → Bool) : ∀ (n i : Nat), skipI p n i = i + n ∨ p (skipI p n i) = false := by
  intro n
  induction n with
  | zero => intro i; simp [skipI]
  | succ n ih =>
    intro i
    simp only [skipI]
    split
    · rcases ih (i + 1) with h | h
      · exact .inl (by omega)
      · exact .inr h
    · rename_i h
      exact .inr (by simpa using h)
theorem backI_le (q : Nat → Bool) (lo : Nat) : ∀ n, lo ≤ n → lo ≤ backI q lo n ∧ backI q lo n ≤ n := by
  intro n
  induction n with
  | zero => intro h; simp [backI]; omega
  | succ n ih =>
    intro h
    simp only [backI]
    split
    · rename_i hc
      have := ih (by omega)
      omega
    · omega
theorem backI_stop (q : Nat → Bool) (lo : Nat) : ∀ n, lo ≤ n → backI q lo n = lo ∨ q (backI q lo n - 1) = false := by
  intro n
  induction n with
  | zero => intro h; simp [backI]; omega
  | succ n ih =>
    intro h
    simp only [backI]
    split
    · exact ih (by omega)
    · rename_i hc
      by_cases hl : lo < n + 1
      · right
        have : ¬ q n = true := fun hq => hc ⟨hl, hq⟩
        simpa using this
      · left; omega

/-! tideway/filter.Put -/
def s118 : Sig := ⟨118, 118, [.col (.sl [(.int .i64), (.int .i64)]), .col I64, .col I64, .col I64, .col (.base .bool)], [.col (.sl [(.int .i64), (.int .i64)]), .col I64]⟩
def t118 : Tr (List (Col × E)) :=
 (.item (.bind 116 [(.v 0), (.v 4)] 5 1)
 (.item (.bind 129 [(.v 1), (.v 2)] 6 1)
 (.item (.bind 129 [(.v 3), (.ki (0))] 7 1)
 (.item (.pre (.kb true) 116 [(.v 0), (.v 4)])
 (.item (.pre (.op1 .not (.op1 .not (.op2 .eq (.v 5) (.ki (0))))) 129 [(.v 1), (.v 2)])
 (.item (.pre (.op1 .not (.op2 .or (.op1 .not (.op2 .eq (.v 5) (.ki (0)))) (.op1 .not (.v 6)))) 129 [(.v 3), (.ki (0))])
 (.item (.need (.op2 .or (.op1 .not (.op2 .and (.op1 .not (.op2 .or (.op2 .or (.op1 .not (.op2 .eq (.v 5) (.ki (0)))) (.op1 .not (.v 6))) (.op1 .not (.v 7)))) (.op2 .lt (.ki (0)) (.len (.v 0))))) (.op2 .le (.ki (0)) (.op1 (.wrap .i64) (.op2 .sub (.len (.v 0)) (.ki (1)))))))
 (.item (.need (.op2 .or (.op1 .not (.op2 .and (.op1 .not (.op2 .or (.op2 .or (.op1 .not (.op2 .eq (.v 5) (.ki (0)))) (.op1 .not (.v 6))) (.op1 .not (.v 7)))) (.op2 .lt (.ki (0)) (.len (.v 0))))) (.op2 .lt (.op1 (.wrap .i64) (.op2 .sub (.len (.v 0)) (.ki (1)))) (.len (.v 0)))))
 (.ite (.op2 .or (.op2 .or (.op2 .or (.op1 .not (.op2 .eq (.v 5) (.ki (0)))) (.op1 .not (.v 6))) (.op1 .not (.v 7))) (.op2 .and (.op2 .lt (.ki (0)) (.len (.v 0))) (.op2 .le (.v 1) (.op2 (.rd 0) (.v 0) (.op1 (.wrap .i64) (.op2 .sub (.len (.v 0)) (.ki (1))))))))
 (.leaf [((.sl [(.int .i64), (.int .i64)]), .lnil), (I64, (.ki (2)))])
 (.loop 8 1 [(.ki (0))]
  (.item (.need (.op2 .or (.op1 .not (.op2 .lt (.v 8) (.len (.v 0)))) (.op2 .le (.ki (0)) (.v 8))))
  (.item (.need (.op2 .or (.op1 .not (.op2 .lt (.v 8) (.len (.v 0)))) (.op2 .lt (.v 8) (.len (.v 0)))))
  (.ite (.op2 .and (.op2 .lt (.v 8) (.len (.v 0))) (.op2 .lt (.op1 (.wrap .i64) (.op2 .add (.op2 (.rd 0) (.v 0) (.v 8)) (.v 3))) (.v 1)))
   (.next 0 [(.op1 (.wrap .i64) (.op2 .add (.v 8) (.ki (1))))])
   (.loop 9 1 [(.len (.v 0))]
    (.item (.bind 130 [(.v 2), (.op2 (.rd 1) (.v 0) (.op1 (.wrap .i64) (.op2 .sub (.v 9) (.ki (1))))), (.v 4)] 10 1)
    (.item (.need (.op2 .or (.op1 .not (.op2 .lt (.v 8) (.v 9))) (.op2 .le (.ki (0)) (.op1 (.wrap .i64) (.op2 .sub (.v 9) (.ki (1)))))))
    (.item (.need (.op2 .or (.op1 .not (.op2 .lt (.v 8) (.v 9))) (.op2 .lt (.op1 (.wrap .i64) (.op2 .sub (.v 9) (.ki (1)))) (.len (.v 0)))))
    (.item (.pre (.op2 .lt (.v 8) (.v 9)) 130 [(.v 2), (.op2 (.rd 1) (.v 0) (.op1 (.wrap .i64) (.op2 .sub (.v 9) (.ki (1))))), (.v 4)])
    (.ite (.op2 .and (.op2 .lt (.v 8) (.v 9)) (.v 10))
     (.next 1 [(.op1 (.wrap .i64) (.op2 .sub (.v 9) (.ki (1))))])
     (.item (.need (.op2 .le (.ki (0)) (.v 8)))
     (.item (.need (.op2 .le (.v 8) (.v 9)))
     (.item (.need (.op2 .le (.v 9) (.v 9)))
     (.item (.need (.op2 .le (.v 9) (.len (.v 0))))
     (.item (.need (.op2 .le (.op2 .add (.len (.sub (.v 0) (.v 8) (.v 9))) (.len (.op2 .cat (.op2 .rcons (.v 1) (.op2 .rcons (.v 2) .rnil)) .lnil))) (.ki (8796093022208))))
     (.leaf [((.sl [(.int .i64), (.int .i64)]), (.op2 .cat (.sub (.v 0) (.v 8) (.v 9)) (.op2 .cat (.op2 .rcons (.v 1) (.op2 .rcons (.v 2) .rnil)) .lnil))), (I64, (.ki (0)))])))))))))))))))))))))))))
theorem c118 : compile Go.Proofs.Try.prog [s116, s129, s130] Go.Proofs.Try.f118 s118.params s118.results = some t118 := by kernel_rfl
def L118 : List (Nat × (List LV → List LV)) := [(116, F116), (129, F129), (130, F130)]
def M118 : List (Nat × (List LV → Prop)) := [(116, R116)]
theorem h118 : ∀ sg, sg ∈ [s116, s129, s130] → ConOk Go.Proofs.Try.prog (ap L118) (apR M118) sg := by
  intro sg h
  simp only [List.mem_cons, List.not_mem_nil, or_false] at h
  rcases h with rfl | rfl | rfl
  · exact k116.to rfl rfl
  · exact k129.to rfl rfl
  · exact k130.to rfl rfl
set_option maxRecDepth 100000 in
theorem k118 : Kon Go.Proofs.Try.prog s118 F118 R118 := by
  refine con_ok h118 (by kernel_rfl) Go.Proofs.Try.func118 (by kernel_rfl) c118 ?_
  intro ls _ hr
  simp only [R118] at hr
  simp only [t118, Tr.den, L118, M118, ap, apR, if_true, Nat.reduceEqDiff, if_false, List.map_cons, List.map_nil, E.den, O1.ev, ev_add, ev_sub, ev_mul, ev_quo, ev_rem, ev_mx, ev_mn, ev_shl, ev_shr, ev_bit, ev_lt, ev_le, ev_eq, ev_and, ev_or, ev_eqb, ev_cat, ev_rcons, ev_rd, SameL, Col.same, List.nil_append, List.cons_append, nextAt]
  simp only [setE_lt, setE_hit, Nat.reduceLT, Nat.reduceLeDiff, Nat.reduceAdd, Nat.reduceSub]
  simp only [E116, E129, E130]
  simp only [LV.Ii, LV.Bb, LV.Ll]
  simp only [List.headD_cons, List.cons_append, List.nil_append]
  refine ⟨fun _ => by simp only [R116, outOf_z]; omega, fun _ => trivial, fun _ => trivial, ?_⟩
  simp only [F118]
  have ha : ∀ j, (((outOf ls 0).L.getD j []).getD 0 (.i 0)).I = atR (outOf ls 0).L j := fun _ => rfl
  have hv : ∀ j, (((outOf ls 0).L.getD j []).getD 1 (.i 0)).I = vR (outOf ls 0).L j := fun _ => rfl
  simp only [ha]
  simp only [hv]
  generalize hR : (outOf ls 0).L = rows at *
  generalize (outOf ls 4).B = m at *
  have e1 : 0 < rows.length → IntKind.i64.wrap ((rows.length : Int) - 1) = ((rows.length - 1 : Nat) : Int) := by intro h; rw [wrap_i64 (by omega) (by omega)]; omega
  have n0 : tf ((0 : Int) < rows.length) = true → tf (0 ≤ IntKind.i64.wrap ((rows.length : Int) - 1)) = true ∧ tf (IntKind.i64.wrap ((rows.length : Int) - 1) < rows.length) = true := by
    intro h
    have h := (tf_t _).mp h
    rw [e1 (by omega)]
    exact ⟨(tf_t _).mpr (by omega), (tf_t _).mpr (by omega)⟩
  refine ⟨?_, ?_, ?_⟩
  · cases hz : tf ((0 : Int) < rows.length)
    · simp only [Bool.and_false, Bool.not_false, Bool.true_or]
    · simp only [(n0 hz).1, Bool.or_true]
  · cases hz : tf ((0 : Int) < rows.length)
    · simp only [Bool.and_false, Bool.not_false, Bool.true_or]
    · simp only [(n0 hz).2, Bool.or_true]
  clear n0
  by_cases hP : PutOk rows (outOf ls 1).I (outOf ls 2).I (outOf ls 3).I m
  case neg =>
    simp only [if_neg hP, outOf_z, outOf_s, LV.Ii, LV.Bb, LV.Ll, and_self]
    rw [if_pos]
    · trivial
    by_cases hF : FOk rows m
    case neg => simp only [if_neg hF]; simp [tf_d]
    simp only [if_pos hF]
    by_cases hE : EntryOk (outOf ls 1).I (outOf ls 2).I
    case neg => simp only [(tf_f _).mpr hE, Bool.not_false, Bool.or_true, Bool.true_or]
    by_cases hW : EntryOk (outOf ls 3).I 0
    case neg => simp only [(tf_f _).mpr hW, Bool.not_false, Bool.or_true, Bool.true_or]
    have hl : ¬ (0 < rows.length → atR rows (rows.length - 1) < (outOf ls 1).I) := fun h => hP ⟨hF, hE, hW.1, h⟩
    by_cases h0 : 0 < rows.length
    case neg => exact absurd (fun h => absurd h h0) hl
    rw [e1 h0, Int.toNat_natCast]
    have h1 : tf ((0 : Int) < rows.length) = true := (tf_t _).mpr (by omega)
    have h2 : tf ((outOf ls 1).I ≤ atR rows (rows.length - 1)) = true := (tf_t _).mpr (by
      rcases Int.lt_or_le (atR rows (rows.length - 1)) (outOf ls 1).I with h | h
      · exact absurd (fun _ => h) hl
      · exact h)
    simp only [h1, h2, Bool.and_true, Bool.or_true]
  obtain ⟨hF, hE, hW, hlast⟩ := hP
  have hP : PutOk rows (outOf ls 1).I (outOf ls 2).I (outOf ls 3).I m := ⟨hF, hE, hW, hlast⟩
  simp only [if_pos hP, outOf_z, outOf_s, LV.Ii, LV.Bb, LV.Ll]
  rw [if_neg (by
    have hW' : EntryOk (outOf ls 3).I 0 := ⟨hW, by omega, by omega⟩
    simp only [if_pos hF, (tf_t _).mpr hE, (tf_t _).mpr hW', Bool.not_true, Bool.or_false]
    by_cases h0 : 0 < rows.length
    · rw [e1 h0, Int.toNat_natCast]
      have := hlast h0
      have h2 : tf ((outOf ls 1).I ≤ atR rows (rows.length - 1)) = false := by rw [tf_f]; omega
      simp only [h2, Bool.and_false, Bool.or_false]
      simp [tf_d]
    · have h2 : tf ((0 : Int) < rows.length) = false := by rw [tf_f]; omega
      simp only [h2, Bool.false_and, Bool.or_false]
      simp [tf_d])]
  clear e1 hR ha hv
  simp only [putL]
  generalize hFrom : putFrom rows (outOf ls 3).I (outOf ls 1).I = FROM
  generalize hTo : putTo rows (outOf ls 2).I m FROM = TO
  refine loop_ok (fun xs => ∃ i : Nat, xs = [.i i] ∧ i ≤ rows.length ∧ skipI (fun i => decide (atR rows i + (outOf ls 3).I < (outOf ls 1).I)) (rows.length - i) i = FROM) (fun xs => rows.length - (outOf xs 0).I.toNat) ?_ ⟨0, rfl, by omega, hFrom⟩
  rintro xs ih ⟨i, rfl, hi, hsk⟩ hih
  simp only [outOf_z, LV.Ii, Int.toNat_natCast]
  have t0 : tf ((0 : Int) ≤ i) = true := (tf_t _).mpr (by omega)
  have t1 : ∀ b : Bool, b = tf ((i : Int) < rows.length) → ((!b) || b) = true := fun b _ => by cases b <;> rfl
  simp only [t0, Bool.or_true, true_and]
  refine ⟨by cases tf ((i : Int) < rows.length) <;> rfl, ?_⟩
  by_cases hc : i < rows.length ∧ atR rows i + (outOf ls 3).I < (outOf ls 1).I
  · have hat := (hF i hc.1).1
    have hw : IntKind.i64.wrap (atR rows i + (outOf ls 3).I) = atR rows i + (outOf ls 3).I := wrap_i64 (by omega) (by omega)
    rw [hw, if_pos (by simp only [Bool.or_eq_true, Bool.and_eq_true, Bool.not_eq_true', tf_t, tf_f, Bool.or_eq_false_iff, Bool.and_eq_false_iff]; omega), wrap_i64 (n := (i : Int) + 1) (by omega) (by omega)]
    refine hih _ ⟨i + 1, rfl, by omega, ?_⟩ (by simp only [outOf_z, LV.Ii]; omega)
    rw [← hsk, show rows.length - i = (rows.length - (i + 1)) + 1 by omega]
    simp only [skipI]
    rw [if_pos (decide_eq_true hc.2)]
  rw [if_neg (by
    simp only [Bool.or_eq_true, Bool.and_eq_true, Bool.not_eq_true', tf_t, tf_f, Bool.or_eq_false_iff, Bool.and_eq_false_iff]
    rintro ⟨h1, h2⟩
    have h1' : i < rows.length := by omega
    have hat := (hF i h1').1
    rw [wrap_i64 (by omega) (by omega)] at h2
    exact hc ⟨h1', h2⟩)]
  have hfi : FROM = i := by
    rw [← hsk]
    rcases Nat.lt_or_ge i rows.length with h | h
    · rw [show rows.length - i = (rows.length - (i + 1)) + 1 by omega]
      simp only [skipI]
      rw [if_neg (fun h' => hc ⟨h, of_decide_eq_true h'⟩)]
    · rw [show rows.length - i = 0 by omega]
      rfl
  subst hfi
  clear hsk hih ih t1 hc
  refine loop_ok (fun xs => ∃ j : Nat, xs = [.i j] ∧ FROM ≤ j ∧ j ≤ rows.length ∧ backI (fun i => decide (Beats (outOf ls 2).I (vR rows i) m)) FROM j = TO) (fun xs => (outOf xs 0).I.toNat) ?_ ⟨rows.length, rfl, hi, by omega, hTo⟩
  rintro xs ih ⟨j, rfl, hj1, hj2, hbk⟩ hih
  simp only [outOf_z, LV.Ii, Int.toNat_natCast, implies_true, true_and]
  have ej : 0 < j → IntKind.i64.wrap ((j : Int) - 1) = ((j - 1 : Nat) : Int) := by intro h; rw [wrap_i64 (by omega) (by omega)]; omega
  have hn : tf ((FROM : Int) < j) = true → tf (0 ≤ IntKind.i64.wrap ((j : Int) - 1)) = true ∧ tf (IntKind.i64.wrap ((j : Int) - 1) < rows.length) = true := by
    intro h
    have h := (tf_t _).mp h
    rw [ej (by omega)]
    exact ⟨(tf_t _).mpr (by omega), (tf_t _).mpr (by omega)⟩
  refine ⟨?_, ?_, ?_⟩
  · cases hz : tf ((FROM : Int) < j)
    · rfl
    · simp only [(hn hz).1, Bool.or_true]
  · cases hz : tf ((FROM : Int) < j)
    · rfl
    · simp only [(hn hz).2, Bool.or_true]
  by_cases hc : FROM < j ∧ Beats (outOf ls 2).I (vR rows (j - 1)) m
  · rw [ej (by omega), Int.toNat_natCast]
    rw [if_pos (by simp only [Bool.or_eq_true, Bool.and_eq_true, Bool.not_eq_true', tf_t, tf_f, Bool.or_eq_false_iff, Bool.and_eq_false_iff]; exact ⟨by omega, hc.2⟩)]
    refine hih _ ⟨j - 1, rfl, by omega, by omega, ?_⟩ (by simp only [outOf_z, LV.Ii]; omega)
    rw [← hbk]
    conv => rhs; rw [show j = (j - 1) + 1 by omega]
    simp only [backI]
    rw [if_pos ⟨by omega, decide_eq_true hc.2⟩]
  · rw [if_neg (by
      simp only [Bool.or_eq_true, Bool.and_eq_true, Bool.not_eq_true', tf_t, tf_f, Bool.or_eq_false_iff, Bool.and_eq_false_iff]
      rintro ⟨h1, h2⟩
      rw [ej (by omega), Int.toNat_natCast] at h2
      exact hc ⟨by omega, h2⟩)]
    have htj : TO = j := by
      rw [← hbk]
      rcases Nat.eq_zero_or_pos j with h | h
      · rw [h]; rfl
      · conv => lhs; rw [show j = (j - 1) + 1 by omega]
        simp only [backI]
        rw [if_neg (fun h' => hc ⟨by omega, of_decide_eq_true h'.2⟩)]
        omega
    subst htj
    refine ⟨(tf_t _).mpr (by omega), (tf_t _).mpr (by omega), (tf_t _).mpr (by omega), (tf_t _).mpr ?_, by simp⟩
    simp only [List.length_drop, List.length_take, List.length_cons, List.length_nil]
    omega
/-! ### What Put keeps -/
theorem at_mono {rows : List (List LV)} (h : FOk rows true) : ∀ (d i : Nat), i + d < rows.length → atR rows i ≤ atR rows (i + d) := by
  intro d
  induction d with
  | zero => intro i _; exact Int.le_refl _
  | succ d ih =>
    intro i hi
    have h1 := ih i (by omega)
    have h2 := ((h (i + (d + 1)) hi).2 (by omega)).1
    rw [show i + (d + 1) - 1 = i + d by omega] at h2
    omega
theorem put_get {rows : List (List LV)} {lo hi : Nat} {a b : LV} (h1 : lo ≤ hi) (h2 : hi ≤ rows.length) (i : Nat) :
    ((rows.take hi).drop lo ++ [[a, b]]).getD i [] = if i < hi - lo then rows.getD (lo + i) [] else if i = hi - lo then [a, b] else [] := by
  have hl : ((rows.take hi).drop lo).length = hi - lo := by rw [List.length_drop, List.length_take]; omega
  rw [List.getD_eq_getElem?_getD, List.getElem?_append]
  rw [hl]
  by_cases hi1 : i < hi - lo
  · rw [if_pos hi1, if_pos hi1, List.getElem?_drop, List.getElem?_take, if_pos (by omega), List.getD_eq_getElem?_getD]
  · rw [if_neg hi1, if_neg hi1]
    by_cases hi2 : i = hi - lo
    · rw [if_pos hi2, hi2, Nat.sub_self]; rfl
    · rw [if_neg hi2, List.getElem?_eq_none (by simp; omega)]; rfl
theorem put_ok {rows : List (List LV)} {a b : LV} {w : Int} (h : PutOk rows a.I b.I w true) : FOk (putL rows a b w true) true ∧ (putL rows a b w true).length ≤ rows.length + 1 ∧
    ∀ i, i < (putL rows a b w true).length → (vR (putL rows a b w true) i = b.I ∧ atR (putL rows a b w true) i = a.I) ∨ ∃ j, j < rows.length ∧ vR (putL rows a b w true) i = vR rows j ∧ atR (putL rows a b w true) i = atR rows j := by
  obtain ⟨hF, hE, _, hlast⟩ := h
  unfold putL
  have f1 := skipI_ge (fun i => decide (atR rows i + w < a.I)) rows.length 0
  have f1 : putFrom rows w a.I ≤ rows.length := by unfold putFrom; omega
  generalize putFrom rows w a.I = lo at *
  have f2 : lo ≤ putTo rows b.I true lo ∧ putTo rows b.I true lo ≤ rows.length := backI_le _ _ _ f1
  have f3 : putTo rows b.I true lo = lo ∨ decide (Beats b.I (vR rows (putTo rows b.I true lo - 1)) true) = false := backI_stop _ _ _ f1
  generalize putTo rows b.I true lo = hi at *
  have hl : ((rows.take hi).drop lo ++ [[a, b]]).length = hi - lo + 1 := by rw [List.length_append, List.length_drop, List.length_take]; simp; omega
  have ga : ∀ i, atR ((rows.take hi).drop lo ++ [[a, b]]) i = if i < hi - lo then atR rows (lo + i) else if i = hi - lo then a.I else 0 := by
    intro i
    unfold atR
    rw [put_get f2.1 f2.2]
    split
    · rfl
    · split <;> rfl
  have gv : ∀ i, vR ((rows.take hi).drop lo ++ [[a, b]]) i = if i < hi - lo then vR rows (lo + i) else if i = hi - lo then b.I else 0 := by
    intro i
    unfold vR
    rw [put_get f2.1 f2.2]
    split
    · rfl
    · split <;> rfl
  refine ⟨?_, by rw [hl]; omega, ?_⟩
  · intro i hi1
    rw [hl] at hi1
    simp only [FOkAt]
    rw [ga i, gv i, ga (i - 1), gv (i - 1)]
    by_cases h1 : i < hi - lo
    · rw [if_pos h1, if_pos h1]
      have h2 := hF (lo + i) (by omega)
      refine ⟨h2.1, fun h0 => ?_⟩
      rw [if_pos (by omega), if_pos (by omega)]
      have h3 := h2.2 (by omega)
      rw [show lo + i - 1 = lo + (i - 1) by omega] at h3
      exact ⟨h3.1, fun _ => h3.2.1 rfl, h3.2.2⟩
    · have h2 : i = hi - lo := by omega
      rw [if_neg h1, if_neg h1, if_pos h2, if_pos h2]
      refine ⟨hE, fun h0 => ?_⟩
      rw [if_pos (by omega), if_pos (by omega)]
      rw [show lo + (i - 1) = hi - 1 by omega]
      refine ⟨?_, fun _ => ?_, fun h => by simp at h⟩
      · have h4 := at_mono hF (rows.length - 1 - (hi - 1)) (hi - 1) (by omega)
        rw [show hi - 1 + (rows.length - 1 - (hi - 1)) = rows.length - 1 by omega] at h4
        have := hlast (by omega)
        omega
      · rcases f3 with h4 | h4
        · omega
        · have h5 := of_decide_eq_false h4
          simp only [Beats, reduceCtorEq, false_and, or_false, true_and] at h5
          omega
  · intro i hi1
    rw [hl] at hi1
    rw [ga i, gv i]
    by_cases h1 : i < hi - lo
    · rw [if_pos h1, if_pos h1]
      exact .inr ⟨lo + i, by omega, rfl, rfl⟩
    · have h2 : i = hi - lo := by omega
      rw [if_neg h1, if_neg h1, if_pos h2, if_pos h2]
      exact .inl ⟨rfl, rfl⟩
end Go.Proofs.Ythhnnfmfeofknaa.Sy
