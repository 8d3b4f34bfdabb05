/-
  Contracts of functions with loops, by hand: cubic.size, seq.Cbrt.
-/
import Derived.Test.YthhnnfmfeofknaaCa
import Derived.Test.YthhnnfmfeofknaaPa
namespace Go.Proofs.Ythhnnfmfeofknaa.Sy
open Go Go.RowKit
set_option linter.unusedSimpArgs false
set_option linter.unusedVariables false

theorem loop_ok {F : (List LV → Prop) → List LV → Prop} (I : List LV → Prop) (μ : List LV → Nat) (h : ∀ xs ih, I xs → (∀ ys, I ys → μ ys < μ xs → ih ys) → F ih xs) {xs : List LV} (h0 : I xs) : ∃ k, iter F k xs := by
  have key : ∀ n xs, μ xs < n → I xs → iter F n xs := by
    intro n
    induction n with
    | zero => intro xs h; omega
    | succ n ihn => intro xs hμ hI; exact h xs (iter F n) hI fun ys hy hm => ihn ys (by omega) hy
  exact ⟨μ xs + 1, key _ xs (by omega) h0⟩
theorem wrap_i64 {n : Int} (h1 : -9223372036854775808 ≤ n) (h2 : n ≤ 9223372036854775807) : IntKind.i64.wrap n = n := by rw [IntKind.wrap_i64]; omega
theorem wrap_u64 {n : Int} (h1 : 0 ≤ n) (h2 : n ≤ 18446744073709551615) : IntKind.u64.wrap n = n := by rw [IntKind.wrap_u64]; omega

/-! ### cubic.size -/
def okRow (r : List LV) : Bool := decide (0 ≤ (r.getD 0 (.i 0)).I) && decide ((r.getD 0 (.i 0)).I ≤ 1073741824)
def F64 (ls : List LV) : List LV := [.b ((outOf ls 0).L.all okRow)]
def R64 (ls : List LV) : Prop := (outOf ls 0).L.length ≤ 9223372036854775807
theorem k64 : Kon Go.Proofs.Try.prog s64 F64 R64 := by
  refine con_ok h64 (by kernel_rfl) Go.Proofs.Try.func64 (by kernel_rfl) c64 ?_
  intro ls _ hr
  have e0 : ∀ xs, setE (outOf ls) 1 1 xs 0 = outOf ls 0 := fun _ => setE_lt (by omega)
  have e1 : ∀ xs, setE (outOf ls) 1 1 xs 1 = outOf xs 0 := fun _ => setE_in (i := 0) (by omega)
  simp only [R64, F64] at hr ⊢
  simp only [t64, Tr.den, List.nil_append, List.map_cons, List.map_nil, E.den, e0, e1, O2.ev, O1.ev, nextAt, SameL, Col.same, outOf, List.getD_cons_zero, LV.B_b, LV.I_i]
  simp only [outOf] at hr
  generalize (ls.getD 0 (.i 0)).L = rows at *
  refine loop_ok (fun xs => ∃ i : Nat, xs = [.i i] ∧ i ≤ rows.length ∧ (rows.take i).all okRow = true) (fun xs => rows.length - (outOf xs 0).I.toNat) ?_ ⟨0, rfl, by simp, by simp⟩
  rintro xs ih ⟨i, rfl, hi, hall⟩ hih
  simp only [List.getD_cons_zero, LV.I_i, decide_eq_true_eq, Int.ofNat_lt, Int.toNat_natCast, and_true, Bool.or_eq_true]
  split
  · rename_i hlt
    refine ⟨by omega, hlt, ?_⟩
    have hrow : rows.getD i [] = rows[i] := by rw [List.getD_eq_getElem?_getD, List.getElem?_eq_getElem hlt]; rfl
    rw [hrow]
    split
    · rename_i hbad
      symm
      rw [List.all_eq_false]
      refine ⟨rows[i], List.getElem_mem _, ?_⟩
      simp only [okRow, Bool.and_eq_true, decide_eq_true_eq]
      omega
    · rename_i hgood
      rw [wrap_i64 (by omega) (by omega)]
      refine hih _ ⟨i + 1, by simp, by omega, ?_⟩ (by simp only [outOf, List.getD_cons_zero, LV.I_i]; omega)
      rw [List.take_succ_eq_append_getElem hlt, List.all_append, hall]
      simp only [List.all_cons, List.all_nil, Bool.and_true, Bool.true_and, okRow, Bool.and_eq_true, decide_eq_true_eq]
      omega
  · rename_i hge
    have : i = rows.length := by omega
    subst this
    rw [List.take_length] at hall
    exact hall.symm

/-! ### seq.Cbrt, ref01.Cbrt -/
def F124 (ls : List LV) : List LV := [.i (cbrtGo (outOf ls 0).I 21 0)]
theorem cube_wrap {b : Int} (h0 : 0 ≤ b) (h1 : b ≤ 2097151) : IntKind.i64.wrap (IntKind.i64.wrap (b * b) * b) = b * b * b := by
  have h2 : b * b ≤ 2097151 * 2097151 := Int.mul_le_mul h1 h1 h0 (by omega)
  have h3 : 0 ≤ b * b := Int.mul_nonneg h0 h0
  have h4 : b * b * b ≤ 2097151 * 2097151 * 2097151 := Int.mul_le_mul h2 h1 h0 (by omega)
  have h5 : 0 ≤ b * b * b := Int.mul_nonneg h3 h0
  rw [wrap_i64 (n := b * b) (by omega) (by omega), wrap_i64 (by omega) (by omega)]
theorem k124 : Kon Go.Proofs.Try.prog s124 F124 (fun _ => True) := by
  refine con_ok h124 (by kernel_rfl) Go.Proofs.Try.func124 (by kernel_rfl) c124 ?_
  intro ls _ _
  have e0 : ∀ xs, setE (outOf ls) 1 2 xs 0 = outOf ls 0 := fun _ => setE_lt (by omega)
  have e1 : ∀ xs, setE (outOf ls) 1 2 xs 1 = outOf xs 0 := fun _ => setE_in (i := 0) (by omega)
  have e2 : ∀ xs, setE (outOf ls) 1 2 xs 2 = outOf xs 1 := fun _ => setE_in (i := 1) (by omega)
  simp only [F124]
  simp only [t124, Tr.den, List.nil_append, List.map_cons, List.map_nil, E.den, e0, e1, e2, O2.ev, O1.ev, nextAt, SameL, Col.same, outOf, List.getD_cons_zero, LV.B_b, LV.I_i]
  generalize (ls.getD 0 (.i 0)).I = n
  generalize hG : cbrtGo n 21 0 = G
  refine loop_ok (fun xs => ∃ (i c : Nat), xs = [.i i, .i ((2 ^ (21 - i) * c : Nat) : Int)] ∧ i ≤ 21 ∧ 2 ^ (21 - i) * c + 2 ^ (21 - i) ≤ 2097152 ∧ cbrtGo n (21 - i) ((2 ^ (21 - i) * c : Nat) : Int) = G)
    (fun xs => 21 - (outOf xs 0).I.toNat) ?_ ⟨0, 0, rfl, by omega, by decide, hG⟩
  rintro xs ih ⟨i, c, rfl, hi, hle, hgo⟩ hih
  simp only [List.getD_cons_zero, List.getD_cons_succ, LV.I_i, decide_eq_true_eq]
  split
  · rename_i hlt
    obtain ⟨k, hk⟩ : ∃ k, k = 20 - i := ⟨_, rfl⟩
    have hk1 : 21 - i = k + 1 := by omega
    have hk2 : (20 : Int) - i = (k : Int) := by omega
    have hk3 : k ≤ 20 := by omega
    rw [hk1] at hle hgo
    rw [hk2, hk1, wrap_i64 (n := (k : Int)) (by omega) (by omega)]
    refine ⟨by omega, ?_⟩
    have hmin : min (k : Int).toNat IntKind.i64.bits = k := by rw [Int.toNat_natCast]; show min k 64 = k; omega
    rw [hmin]
    have hp : 2 ^ k ≤ 2 ^ 20 := Nat.pow_le_pow_right (by omega) hk3
    have e : 2 ^ (k + 1) = 2 ^ k + 2 ^ k := by rw [Nat.pow_succ]; omega
    have hpk : (2 : Int) ^ k = ((2 ^ k : Nat) : Int) := by simp
    have hp0 : (0 : Int) < 2 ^ k := Int.pow_pos (by omega)
    have hw : IntKind.i64.wrap (1 * (2 : Int) ^ k) = ((2 ^ k : Nat) : Int) := by rw [hpk, Int.one_mul, wrap_i64 (by omega) (by omega)]
    have hlt2 : 2 ^ k < 2 ^ (k + 1) := by have := Nat.pow_pos (a := 2) (n := k) (by omega); omega
    have hor : bitI .or .i64 ((2 ^ (k + 1) * c : Nat) : Int) ((2 ^ k : Nat) : Int) = ((2 ^ (k + 1) * c : Nat) : Int) + 2 ^ k := by
      rw [bitI_i64 .or _ _ (by omega) (by omega)]
      simp only
      rw [or_add hlt2, wrap_i64 (by omega) (by omega), hpk]
      omega
    rw [hw, hor]
    simp only [cbrtGo] at hgo
    have hb : 0 ≤ ((2 ^ (k + 1) * c : Nat) : Int) + 2 ^ k ∧ ((2 ^ (k + 1) * c : Nat) : Int) + 2 ^ k ≤ 2097151 := by
      rw [hpk]
      have := Nat.pow_pos (a := 2) (n := k) (by omega)
      omega
    rw [cube_wrap hb.1 hb.2, wrap_i64 (n := (i : Int) + 1) (by omega) (by omega)]
    have h21 : 21 - (i + 1) = k := by omega
    split at hgo
    · rename_i hc
      rw [if_pos hc]
      have e3 : ((2 ^ (k + 1) * c : Nat) : Int) + 2 ^ k = ((2 ^ k * (2 * c + 1) : Nat) : Int) := by
        rw [hpk, e, Nat.mul_add, Nat.add_mul]
        rw [show 2 ^ k * (2 * c) = 2 ^ k * c + 2 ^ k * c by rw [Nat.mul_left_comm]; omega]
        omega
      rw [e3] at hgo ⊢
      have e4 : 2 ^ k * (2 * c + 1) + 2 ^ k = 2 ^ (k + 1) * c + 2 ^ (k + 1) := by
        rw [e, Nat.mul_add, Nat.add_mul]
        rw [show 2 ^ k * (2 * c) = 2 ^ k * c + 2 ^ k * c by rw [Nat.mul_left_comm]; omega]
        omega
      refine hih _ ⟨i + 1, 2 * c + 1, by rw [h21]; simp, by omega, by rw [h21]; omega, by rw [h21]; exact hgo⟩ (by simp only [outOf, List.getD_cons_zero, LV.I_i]; omega)
    · rename_i hc
      rw [if_neg hc]
      have e3 : 2 ^ (k + 1) * c = 2 ^ k * (2 * c) := by rw [Nat.pow_succ, Nat.mul_assoc]
      rw [e3] at hgo ⊢
      refine hih _ ⟨i + 1, 2 * c, by rw [h21]; simp, by omega, by rw [h21, ← e3]; omega, by rw [h21]; exact hgo⟩ (by simp only [outOf, List.getD_cons_zero, LV.I_i]; omega)
  · rename_i hge
    have : i = 21 := by omega
    subst this
    simp only [Nat.sub_self, cbrtGo] at hgo ⊢
    exact ⟨hgo, trivial⟩
def F69 (ls : List LV) : List LV := [.i (cbrtGo (outOf ls 0).I 21 0)]
theorem k69 : Kon Go.Proofs.Try.prog s69 F69 (fun _ => True) := by
  refine con_ok h69 (by kernel_rfl) Go.Proofs.Try.func69 (by kernel_rfl) c69 ?_
  intro ls _ _
  have e0 : ∀ xs, setE (outOf ls) 1 2 xs 0 = outOf ls 0 := fun _ => setE_lt (by omega)
  have e1 : ∀ xs, setE (outOf ls) 1 2 xs 1 = outOf xs 0 := fun _ => setE_in (i := 0) (by omega)
  have e2 : ∀ xs, setE (outOf ls) 1 2 xs 2 = outOf xs 1 := fun _ => setE_in (i := 1) (by omega)
  simp only [F69]
  simp only [t69, Tr.den, List.nil_append, List.map_cons, List.map_nil, E.den, e0, e1, e2, O2.ev, O1.ev, nextAt, SameL, Col.same, outOf, List.getD_cons_zero, LV.B_b, LV.I_i]
  generalize (ls.getD 0 (.i 0)).I = n
  refine loop_ok (fun xs => ∃ (hi lo : Int), xs = [.i hi, .i lo] ∧ 0 ≤ lo ∧ lo ≤ hi ∧ hi ≤ 2097151 ∧ (lo = 0 ∨ lo * lo * lo ≤ n) ∧ (hi = 2097151 ∨ n < (hi + 1) * (hi + 1) * (hi + 1)))
    (fun xs => ((outOf xs 0).I - (outOf xs 1).I).toNat) ?_ ⟨2097151, 0, rfl, by omega, by omega, by omega, .inl rfl, .inl rfl⟩
  rintro xs ih ⟨hi, lo, rfl, h1, h2, h3, h4, h5⟩ hih
  simp only [List.getD_cons_zero, List.getD_cons_succ, LV.I_i, decide_eq_true_eq]
  split
  · rename_i hlt
    rw [wrap_i64 (n := lo + hi) (by omega) (by omega), wrap_i64 (n := lo + hi + 1) (by omega) (by omega), Int.tdiv_eq_ediv_of_nonneg (by omega)]
    have hm : lo < (lo + hi + 1) / 2 ∧ (lo + hi + 1) / 2 ≤ hi := by omega
    generalize (lo + hi + 1) / 2 = m at *
    rw [wrap_i64 (n := m) (by omega) (by omega), cube_wrap (by omega) (by omega), wrap_i64 (n := m - 1) (by omega) (by omega)]
    split
    · rename_i hc
      exact hih _ ⟨hi, m, rfl, by omega, by omega, h3, .inr hc, h5⟩ (by simp only [outOf, List.getD_cons_zero, List.getD_cons_succ, LV.I_i]; omega)
    · rename_i hc
      exact hih _ ⟨m - 1, lo, rfl, h1, by omega, by omega, h4, .inr (by rw [Int.sub_add_cancel]; omega)⟩ (by simp only [outOf, List.getD_cons_zero, List.getD_cons_succ, LV.I_i]; omega)
  · rename_i hge
    have : lo = hi := by omega
    subst this
    exact ⟨Root.unique ⟨h1, h3, h4, h5⟩ (cbrtGo_root n), trivial⟩
end Go.Proofs.Ythhnnfmfeofknaa.Sy
