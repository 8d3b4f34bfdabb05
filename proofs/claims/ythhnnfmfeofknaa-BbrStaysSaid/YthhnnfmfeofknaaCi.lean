/-
  What the small functions of the controllers come to, on numbers: sums, clamps, whether a controller may be.
-/
import Derived.Test.YthhnnfmfeofknaaCh
namespace Go.Proofs.Ythhnnfmfeofknaa.Sy
open Go Go.RowKit
set_option linter.unusedSimpArgs false
set_option linter.unusedVariables false

/-- A proposition's truth value. (No instance in sight: so simp may turn p.) -/
noncomputable def tf (p : Prop) : Bool := @decide p (Classical.propDecidable p)
theorem tf_t (p : Prop) : (tf p = true) = p := by unfold tf; exact @decide_eq_true_eq p (Classical.propDecidable p)
theorem tf_f (p : Prop) : (tf p = false) = ¬ p := by unfold tf; exact propext (@decide_eq_false_iff_not p (Classical.propDecidable p))
theorem tf_d (p : Prop) [h : Decidable p] : tf p = decide p := by
  by_cases hp : p
  · rw [decide_eq_true hp, tf_t]; exact hp
  · rw [decide_eq_false hp, tf_f]; exact hp
theorem ev_add (a b : LV) : O2.ev .add a b = .i (a.I + b.I) := rfl
theorem ev_sub (a b : LV) : O2.ev .sub a b = .i (a.I - b.I) := rfl
theorem ev_mul (a b : LV) : O2.ev .mul a b = .i (a.I * b.I) := rfl
theorem ev_quo (a b : LV) : O2.ev .quo a b = .i (a.I.tdiv b.I) := rfl
theorem ev_rem (a b : LV) : O2.ev .rem a b = .i (a.I.tmod b.I) := rfl
theorem ev_mx (a b : LV) : O2.ev .mx a b = .i (max a.I b.I) := rfl
theorem ev_mn (a b : LV) : O2.ev .mn a b = .i (min a.I b.I) := rfl
theorem ev_shl (k : IntKind) (a b : LV) : O2.ev (.shl k) a b = .i (a.I * 2 ^ (min b.I.toNat k.bits)) := rfl
theorem ev_shr (k : IntKind) (a b : LV) : O2.ev (.shr k) a b = .i (a.I.fdiv (2 ^ (min b.I.toNat k.bits))) := rfl
theorem ev_bit (o : BinOp) (k : IntKind) (a b : LV) : O2.ev (.bit o k) a b = .i (bitI o k a.I b.I) := rfl
theorem ev_lt (a b : LV) : O2.ev .lt a b = .b (tf (a.I < b.I)) := by rw [tf_d]; rfl
theorem ev_le (a b : LV) : O2.ev .le a b = .b (tf (a.I ≤ b.I)) := by rw [tf_d]; rfl
theorem ev_eq (a b : LV) : O2.ev .eq a b = .b (tf (a.I = b.I)) := by rw [tf_d]; rfl
theorem ev_and (a b : LV) : O2.ev .and a b = .b (a.B && b.B) := rfl
theorem ev_or (a b : LV) : O2.ev .or a b = .b (a.B || b.B) := rfl
theorem ev_eqb (a b : LV) : O2.ev .eqb a b = .b (a.B == b.B) := rfl
theorem ev_cat (a b : LV) : O2.ev .cat a b = .l (a.L ++ b.L) := rfl
theorem ev_rcons (a b : LV) : O2.ev .rcons a b = .l [a :: b.L.headD []] := rfl
theorem ev_rd (j : Nat) (a b : LV) : O2.ev (.rd j) a b = (a.L.getD b.I.toNat []).getD j (.i 0) := rfl
theorem outOf_z (x : LV) (xs : List LV) : outOf (x :: xs) 0 = x := Eq.trans rfl rfl
theorem outOf_s (x : LV) (xs : List LV) (n : Nat) : outOf (x :: xs) (n + 1) = outOf xs n := Eq.trans rfl rfl
def clampI (x l h : Int) : Int := max l (min x h)
def sat (n : Int) : Int := max (-9223372036854775808) (min n 9223372036854775807)
abbrev In64 (n : Int) : Prop := -9223372036854775808 ≤ n ∧ n ≤ 9223372036854775807
theorem in_sat (n : Int) : In64 (sat n) := by unfold sat; omega
theorem E75 (x l h : LV) : (outOf (F75 [x, l, h]) 0).I = clampI x.I l.I h.I := by
  simp only [F75, t75, Tr.ev, L75, ap, if_true, Nat.reduceEqDiff, if_false, List.map_cons, List.map_nil, E.den, O1.ev, ev_add, ev_sub, ev_mul, ev_quo, ev_rem, ev_mx, ev_mn, ev_shl, ev_shr, ev_bit, ev_lt, ev_le, ev_eq, ev_and, ev_or, ev_eqb, ev_cat, ev_rcons, ev_rd]
  simp only [outOf_z, outOf_s, LV.Ii, LV.Bb, LV.Ll]
  rfl
theorem E70 (x l h : LV) : (outOf (F70 [x, l, h]) 0).I = clampI x.I l.I h.I := by
  simp only [F70, t70, Tr.ev, L70, ap, if_true, Nat.reduceEqDiff, if_false, List.map_cons, List.map_nil, E.den, O1.ev, ev_add, ev_sub, ev_mul, ev_quo, ev_rem, ev_mx, ev_mn, ev_shl, ev_shr, ev_bit, ev_lt, ev_le, ev_eq, ev_and, ev_or, ev_eqb, ev_cat, ev_rcons, ev_rd]
  simp only [outOf_z, outOf_s, LV.Ii, LV.Bb, LV.Ll, tf_t, clampI]
  split
  · simp only [outOf_z, outOf_s]; omega
  · split
    · split <;> simp only [outOf_z, outOf_s] <;> omega
    · simp only [outOf_z, outOf_s]; omega
theorem E76 (a b : LV) (ha : In64 a.I) (hb : In64 b.I) : (outOf (F76 [a, b]) 0).I = sat (a.I + b.I) := by
  simp only [F76, t76, Tr.ev, L76, ap, if_true, Nat.reduceEqDiff, if_false, List.map_cons, List.map_nil, E.den, O1.ev, ev_add, ev_sub, ev_mul, ev_quo, ev_rem, ev_mx, ev_mn, ev_shl, ev_shr, ev_bit, ev_lt, ev_le, ev_eq, ev_and, ev_or, ev_eqb, ev_cat, ev_rcons, ev_rd]
  simp only [outOf_z, outOf_s, LV.Ii, LV.Bb, LV.Ll, Bool.or_eq_true, Bool.and_eq_true, Bool.not_eq_true', tf_t, tf_f, Bool.or_eq_false_iff, Bool.and_eq_false_iff, sat, IntKind.wrap_i64]
  split
  · simp only [outOf_z, outOf_s, LV.Ii, LV.Bb, LV.Ll]; omega
  · split
    · simp only [outOf_z, outOf_s, LV.Ii, LV.Bb, LV.Ll]; omega
    · simp only [outOf_z, outOf_s, LV.Ii, LV.Bb, LV.Ll]; omega
theorem E71 (a b : LV) (ha : In64 a.I) (hb : In64 b.I) : (outOf (F71 [a, b]) 0).I = sat (a.I + b.I) := by
  simp only [F71, t71, Tr.ev, L71, ap, if_true, Nat.reduceEqDiff, if_false, List.map_cons, List.map_nil, E.den, O1.ev, ev_add, ev_sub, ev_mul, ev_quo, ev_rem, ev_mx, ev_mn, ev_shl, ev_shr, ev_bit, ev_lt, ev_le, ev_eq, ev_and, ev_or, ev_eqb, ev_cat, ev_rcons, ev_rd]
  simp only [outOf_z, outOf_s, LV.Ii, LV.Bb, LV.Ll, Bool.or_eq_true, Bool.and_eq_true, Bool.not_eq_true', tf_t, tf_f, Bool.or_eq_false_iff, Bool.and_eq_false_iff, sat, IntKind.wrap_i64]
  split
  · simp only [outOf_z, outOf_s, LV.Ii, LV.Bb, LV.Ll]; omega
  · split
    · simp only [outOf_z, outOf_s, LV.Ii, LV.Bb, LV.Ll]; omega
    · simp only [outOf_z, outOf_s, LV.Ii, LV.Bb, LV.Ll]; omega
theorem E66 (a : LV) : (outOf (F66 [a]) 0).B = tf (0 ≤ a.I ∧ a.I ≤ 1073741824) := by
  simp only [F66, t66, Tr.ev, L66, ap, if_true, Nat.reduceEqDiff, if_false, List.map_cons, List.map_nil, E.den, O1.ev, ev_add, ev_sub, ev_mul, ev_quo, ev_rem, ev_mx, ev_mn, ev_shl, ev_shr, ev_bit, ev_lt, ev_le, ev_eq, ev_and, ev_or, ev_eqb, ev_cat, ev_rcons, ev_rd]
  simp only [outOf_z, outOf_s, LV.Ii, LV.Bb, LV.Ll]
  rw [← Bool.coe_iff_coe]
  simp only [Bool.or_eq_true, Bool.and_eq_true, Bool.not_eq_true', tf_t, tf_f, Bool.or_eq_false_iff, Bool.and_eq_false_iff]
theorem E108 (a : LV) : (outOf (F108 [a]) 0).B = tf (0 ≤ a.I ∧ a.I ≤ 1073741824) := by
  simp only [F108, t108, Tr.ev, L108, ap, if_true, Nat.reduceEqDiff, if_false, List.map_cons, List.map_nil, E.den, O1.ev, ev_add, ev_sub, ev_mul, ev_quo, ev_rem, ev_mx, ev_mn, ev_shl, ev_shr, ev_bit, ev_lt, ev_le, ev_eq, ev_and, ev_or, ev_eqb, ev_cat, ev_rcons, ev_rd]
  simp only [outOf_z, outOf_s, LV.Ii, LV.Bb, LV.Ll]
  rw [← Bool.coe_iff_coe]
  simp only [Bool.or_eq_true, Bool.and_eq_true, Bool.not_eq_true', tf_t, tf_f, Bool.or_eq_false_iff, Bool.and_eq_false_iff]
theorem E86 (a : LV) : (outOf (F86 [a]) 0).B = tf (0 ≤ a.I ∧ a.I ≤ 1073741824) := by
  simp only [F86, t86, Tr.ev, L86, ap, if_true, Nat.reduceEqDiff, if_false, List.map_cons, List.map_nil, E.den, O1.ev, ev_add, ev_sub, ev_mul, ev_quo, ev_rem, ev_mx, ev_mn, ev_shl, ev_shr, ev_bit, ev_lt, ev_le, ev_eq, ev_and, ev_or, ev_eqb, ev_cat, ev_rcons, ev_rd]
  simp only [outOf_z, outOf_s, LV.Ii, LV.Bb, LV.Ll]
  rw [← Bool.coe_iff_coe]
  simp only [Bool.or_eq_true, Bool.and_eq_true, Bool.not_eq_true', tf_t, tf_f, Bool.or_eq_false_iff, Bool.and_eq_false_iff]
theorem E67 (a : LV) : (outOf (F67 [a]) 0).B = tf (0 ≤ a.I ∧ a.I ≤ 1125899906842624) := by
  simp only [F67, t67, Tr.ev, L67, ap, if_true, Nat.reduceEqDiff, if_false, List.map_cons, List.map_nil, E.den, O1.ev, ev_add, ev_sub, ev_mul, ev_quo, ev_rem, ev_mx, ev_mn, ev_shl, ev_shr, ev_bit, ev_lt, ev_le, ev_eq, ev_and, ev_or, ev_eqb, ev_cat, ev_rcons, ev_rd]
  simp only [outOf_z, outOf_s, LV.Ii, LV.Bb, LV.Ll]
  rw [← Bool.coe_iff_coe]
  simp only [Bool.or_eq_true, Bool.and_eq_true, Bool.not_eq_true', tf_t, tf_f, Bool.or_eq_false_iff, Bool.and_eq_false_iff]
theorem E85 (a : LV) : (outOf (F85 [a]) 0).B = tf (0 ≤ a.I ∧ a.I ≤ 1125899906842624) := by
  simp only [F85, t85, Tr.ev, L85, ap, if_true, Nat.reduceEqDiff, if_false, List.map_cons, List.map_nil, E.den, O1.ev, ev_add, ev_sub, ev_mul, ev_quo, ev_rem, ev_mx, ev_mn, ev_shl, ev_shr, ev_bit, ev_lt, ev_le, ev_eq, ev_and, ev_or, ev_eqb, ev_cat, ev_rcons, ev_rd]
  simp only [outOf_z, outOf_s, LV.Ii, LV.Bb, LV.Ll]
  rw [← Bool.coe_iff_coe]
  simp only [Bool.or_eq_true, Bool.and_eq_true, Bool.not_eq_true', tf_t, tf_f, Bool.or_eq_false_iff, Bool.and_eq_false_iff]
theorem E88 (a : LV) : (outOf (F88 [a]) 0).B = tf (0 ≤ a.I ∧ a.I ≤ 1125899906842624) := by
  simp only [F88, t88, Tr.ev, L88, ap, if_true, Nat.reduceEqDiff, if_false, List.map_cons, List.map_nil, E.den, O1.ev, ev_add, ev_sub, ev_mul, ev_quo, ev_rem, ev_mx, ev_mn, ev_shl, ev_shr, ev_bit, ev_lt, ev_le, ev_eq, ev_and, ev_or, ev_eqb, ev_cat, ev_rcons, ev_rd]
  simp only [outOf_z, outOf_s, LV.Ii, LV.Bb, LV.Ll]
  rw [← Bool.coe_iff_coe]
  simp only [Bool.or_eq_true, Bool.and_eq_true, Bool.not_eq_true', tf_t, tf_f, Bool.or_eq_false_iff, Bool.and_eq_false_iff]
theorem E115 (a : LV) : (outOf (F115 [a]) 0).B = tf (0 ≤ a.I ∧ a.I ≤ 1125899906842624) := by
  simp only [F115, t115, Tr.ev, L115, ap, if_true, Nat.reduceEqDiff, if_false, List.map_cons, List.map_nil, E.den, O1.ev, ev_add, ev_sub, ev_mul, ev_quo, ev_rem, ev_mx, ev_mn, ev_shl, ev_shr, ev_bit, ev_lt, ev_le, ev_eq, ev_and, ev_or, ev_eqb, ev_cat, ev_rcons, ev_rd]
  simp only [outOf_z, outOf_s, LV.Ii, LV.Bb, LV.Ll]
  rw [← Bool.coe_iff_coe]
  simp only [Bool.or_eq_true, Bool.and_eq_true, Bool.not_eq_true', tf_t, tf_f, Bool.or_eq_false_iff, Bool.and_eq_false_iff]
theorem E127 (a : LV) : (outOf (F127 [a]) 0).B = tf (0 ≤ a.I ∧ a.I ≤ 1125899906842624) := by
  simp only [F127, t127, Tr.ev, L127, ap, if_true, Nat.reduceEqDiff, if_false, List.map_cons, List.map_nil, E.den, O1.ev, ev_add, ev_sub, ev_mul, ev_quo, ev_rem, ev_mx, ev_mn, ev_shl, ev_shr, ev_bit, ev_lt, ev_le, ev_eq, ev_and, ev_or, ev_eqb, ev_cat, ev_rcons, ev_rd]
  simp only [outOf_z, outOf_s, LV.Ii, LV.Bb, LV.Ll]
  rw [← Bool.coe_iff_coe]
  simp only [Bool.or_eq_true, Bool.and_eq_true, Bool.not_eq_true', tf_t, tf_f, Bool.or_eq_false_iff, Bool.and_eq_false_iff]
theorem E128 (a : LV) : (outOf (F128 [a]) 0).B = tf (0 ≤ a.I ∧ a.I ≤ 1152921504606846976) := by
  simp only [F128, t128, Tr.ev, L128, ap, if_true, Nat.reduceEqDiff, if_false, List.map_cons, List.map_nil, E.den, O1.ev, ev_add, ev_sub, ev_mul, ev_quo, ev_rem, ev_mx, ev_mn, ev_shl, ev_shr, ev_bit, ev_lt, ev_le, ev_eq, ev_and, ev_or, ev_eqb, ev_cat, ev_rcons, ev_rd]
  simp only [outOf_z, outOf_s, LV.Ii, LV.Bb, LV.Ll]
  rw [← Bool.coe_iff_coe]
  simp only [Bool.or_eq_true, Bool.and_eq_true, Bool.not_eq_true', tf_t, tf_f, Bool.or_eq_false_iff, Bool.and_eq_false_iff]
theorem E64a (a : LV) : (outOf (F64 [.l [[a]]]) 0).B = tf (0 ≤ a.I ∧ a.I ≤ 1073741824) := by
  rw [tf_d]
  simp only [F64, okRow, outOf_z, List.getD_cons_zero, LV.Bb, LV.Ll, List.all_cons, List.all_nil, Bool.and_true, Bool.decide_and]
theorem E64c (a b c : LV) : (outOf (F64 [.l [[a], [b], [c]]]) 0).B = tf ((0 ≤ a.I ∧ a.I ≤ 1073741824) ∧ (0 ≤ b.I ∧ b.I ≤ 1073741824) ∧ 0 ≤ c.I ∧ c.I ≤ 1073741824) := by
  rw [tf_d]
  simp only [F64, okRow, outOf_z, List.getD_cons_zero, LV.Bb, LV.Ll, List.all_cons, List.all_nil, Bool.and_true, Bool.decide_and]
abbrev Common (f : Nat → LV) : Prop := 1 ≤ (f 1).I ∧ (f 1).I ≤ 65000 ∧ (f 1).I ≤ (f 2).I ∧ (f 2).I ≤ 1073741824 ∧ 2 * (f 1).I ≤ (f 3).I ∧ (f 3).I ≤ 1073741824 ∧ 0 ≤ (f 4).I ∧ (f 4).I ≤ 1073741824
abbrev NoCubic (f : Nat → LV) : Prop := (f 5).I = 0 ∧ (f 6).I = 0 ∧ (f 7).I = 0 ∧ (f 8).I = 0 ∧ (f 9).I = 0
abbrev NoBbr (f : Nat → LV) : Prop := (f 10).I = 0 ∧ ((f 11).L.length : Int) = 0 ∧ (f 12).I = 0 ∧ (f 13).I = 0 ∧ (f 14).I = 0 ∧ (f 15).I = 0 ∧ (f 16).I = 0 ∧ (f 17).I = 0 ∧ (f 18).I = 0 ∧ (f 19).I = 0 ∧ (f 20).I = 0 ∧ (f 21).I = 0
abbrev RenoOk (f : Nat → LV) : Prop := (f 0).I = 1 ∧ Common f ∧ NoCubic f ∧ NoBbr f
abbrev CubicOk (f : Nat → LV) : Prop := (f 0).I = 2 ∧ Common f ∧ ((0 ≤ (f 5).I ∧ (f 5).I ≤ 1073741824) ∧ (0 ≤ (f 8).I ∧ (f 8).I ≤ 1073741824) ∧ 0 ≤ (f 9).I ∧ (f 9).I ≤ 1073741824) ∧ (0 ≤ (f 7).I ∧ (f 7).I ≤ 2097151 ∧ -1 ≤ (f 6).I ∧ (f 6).I ≤ 1125899906842624) ∧ NoBbr f
theorem wrap2 {m : Int} (h : 1 ≤ m ∧ m ≤ 65000) : IntKind.i64.wrap (2 * m) = 2 * m := wrap_i64 (by omega) (by omega)
theorem pick230 {C : Bool} {P : Prop} [Decidable P] (h : C = true ↔ ¬ P) : (outOf (if C = true then [LV.i 230] else [LV.i 0]) 0).I = if P then 0 else 230 := by
  by_cases hp : P
  · rw [if_pos hp, if_neg (fun hc => h.1 hc hp)]; rfl
  · rw [if_neg hp, if_pos (h.2 hp)]; rfl

theorem E109 (x0 x1 x2 x3 x4 x5 x6 x7 x8 x9 x10 x11 x12 x13 x14 x15 x16 x17 x18 x19 x20 x21 : LV) : (outOf (F109 [x0, x1, x2, x3, x4, x5, x6, x7, x8, x9, x10, x11, x12, x13, x14, x15, x16, x17, x18, x19, x20, x21]) 0).B = tf (NoCubic (outOf [x0, x1, x2, x3, x4, x5, x6, x7, x8, x9, x10, x11, x12, x13, x14, x15, x16, x17, x18, x19, x20, x21]) ∧ NoBbr (outOf [x0, x1, x2, x3, x4, x5, x6, x7, x8, x9, x10, x11, x12, x13, x14, x15, x16, x17, x18, x19, x20, x21])) := by
  simp only [F109, t109, Tr.ev, L109, ap, if_true, Nat.reduceEqDiff, if_false, List.map_cons, List.map_nil, E.den, O1.ev, ev_add, ev_sub, ev_mul, ev_quo, ev_rem, ev_mx, ev_mn, ev_shl, ev_shr, ev_bit, ev_lt, ev_le, ev_eq, ev_and, ev_or, ev_eqb, ev_cat, ev_rcons, ev_rd]
  simp only [NoCubic, NoBbr, outOf_z, outOf_s, LV.Ii, LV.Bb, LV.Ll]
  rw [← Bool.coe_iff_coe]
  simp only [Bool.or_eq_true, Bool.and_eq_true, Bool.not_eq_true', tf_t, tf_f, Bool.or_eq_false_iff, Bool.and_eq_false_iff, and_assoc]
theorem E72 (ls : List LV) : (outOf (F72 ls) 0).I = if RenoOk (outOf ls) then 0 else 230 := by
  simp only [F72, t72, Tr.ev, L72, ap, if_true, Nat.reduceEqDiff, if_false, List.map_cons, List.map_nil, E.den, O1.ev, ev_add, ev_sub, ev_mul, ev_quo, ev_rem, ev_mx, ev_mn, ev_shl, ev_shr, ev_bit, ev_lt, ev_le, ev_eq, ev_and, ev_or, ev_eqb, ev_cat, ev_rcons, ev_rd]
  simp only [setE_lt, setE_hit, Nat.reduceLT, Nat.reduceLeDiff, Nat.reduceAdd, Nat.reduceSub]
  simp only [E108, E109]
  refine pick230 ?_
  simp only [LV.Ii, LV.Bb, LV.Ll]
  simp only [Bool.or_eq_true, Bool.and_eq_true, Bool.not_eq_true', tf_t, tf_f, Bool.or_eq_false_iff, Bool.and_eq_false_iff]
  simp only [RenoOk, Common, NoCubic, NoBbr, outOf_z, outOf_s]
  by_cases hm : 1 ≤ (outOf ls 1).I ∧ (outOf ls 1).I ≤ 65000
  · rw [wrap2 hm]
    omega
  · omega
theorem E73 (x0 x1 x2 x3 x4 x5 x6 x7 x8 x9 x10 x11 x12 x13 x14 x15 x16 x17 x18 x19 x20 x21 : LV) : (outOf (F73 [x0, x1, x2, x3, x4, x5, x6, x7, x8, x9, x10, x11, x12, x13, x14, x15, x16, x17, x18, x19, x20, x21]) 0).B = tf (Common (outOf [x0, x1, x2, x3, x4, x5, x6, x7, x8, x9, x10, x11, x12, x13, x14, x15, x16, x17, x18, x19, x20, x21])) := by
  simp only [F73, t73, Tr.ev, L73, ap, if_true, Nat.reduceEqDiff, if_false, List.map_cons, List.map_nil, E.den, O1.ev, ev_add, ev_sub, ev_mul, ev_quo, ev_rem, ev_mx, ev_mn, ev_shl, ev_shr, ev_bit, ev_lt, ev_le, ev_eq, ev_and, ev_or, ev_eqb, ev_cat, ev_rcons, ev_rd]
  simp only [setE_lt, setE_hit, Nat.reduceLT, Nat.reduceLeDiff, Nat.reduceAdd, Nat.reduceSub]
  simp only [E66]
  simp only [outOf_z, outOf_s]
  simp only [LV.Ii, LV.Bb, LV.Ll]
  rw [← Bool.coe_iff_coe]
  simp only [Bool.or_eq_true, Bool.and_eq_true, Bool.not_eq_true', tf_t, tf_f, Bool.or_eq_false_iff, Bool.and_eq_false_iff]
  simp only [Common, outOf_z, outOf_s]
  by_cases hm : 1 ≤ x1.I ∧ x1.I ≤ 65000
  · rw [wrap2 hm]
    omega
  · omega
theorem E74 (x0 x1 x2 x3 x4 x5 x6 x7 x8 x9 x10 x11 x12 x13 x14 x15 x16 x17 x18 x19 x20 x21 a b : LV) : (outOf (F74 [x0, x1, x2, x3, x4, x5, x6, x7, x8, x9, x10, x11, x12, x13, x14, x15, x16, x17, x18, x19, x20, x21, a, b]) 0).B = tf ((a.B = false → NoCubic (outOf [x0, x1, x2, x3, x4, x5, x6, x7, x8, x9, x10, x11, x12, x13, x14, x15, x16, x17, x18, x19, x20, x21])) ∧ (b.B = false → NoBbr (outOf [x0, x1, x2, x3, x4, x5, x6, x7, x8, x9, x10, x11, x12, x13, x14, x15, x16, x17, x18, x19, x20, x21]))) := by
  simp only [F74, t74, Tr.ev, L74, ap, if_true, Nat.reduceEqDiff, if_false, List.map_cons, List.map_nil, E.den, O1.ev, ev_add, ev_sub, ev_mul, ev_quo, ev_rem, ev_mx, ev_mn, ev_shl, ev_shr, ev_bit, ev_lt, ev_le, ev_eq, ev_and, ev_or, ev_eqb, ev_cat, ev_rcons, ev_rd]
  simp only [outOf_z, outOf_s, LV.Ii, LV.Bb, LV.Ll]
  rw [← Bool.coe_iff_coe, tf_t]
  simp only [NoCubic, NoBbr, outOf_z, outOf_s]
  split
  · rename_i h
    simp only [Bool.or_eq_true, Bool.and_eq_true, Bool.not_eq_true', tf_t, tf_f, Bool.or_eq_false_iff, Bool.and_eq_false_iff] at h
    simp only [outOf_z, outOf_s, LV.Bb, Bool.false_eq_true, false_iff]
    rintro ⟨h1, _⟩
    have := h1 h.1
    omega
  · rename_i h
    split
    · rename_i h2
      simp only [Bool.or_eq_true, Bool.and_eq_true, Bool.not_eq_true', tf_t, tf_f, Bool.or_eq_false_iff, Bool.and_eq_false_iff] at h2
      simp only [outOf_z, outOf_s, LV.Bb, Bool.false_eq_true, false_iff]
      rintro ⟨_, h1⟩
      have := h1 h2.1
      omega
    · rename_i h2
      simp only [outOf_z, outOf_s, LV.Bb, true_iff]
      simp only [Bool.or_eq_true, Bool.and_eq_true, Bool.not_eq_true', tf_t, tf_f, Bool.or_eq_false_iff, Bool.and_eq_false_iff, not_and] at h h2
      exact ⟨fun ha => by have := h ha; omega, fun hb => by have := h2 hb; omega⟩
theorem E110 (ls : List LV) : (outOf (F110 ls) 0).I = if RenoOk (outOf ls) then 0 else 230 := by
  simp only [F110, t110, Tr.ev, L110, ap, if_true, Nat.reduceEqDiff, if_false, List.map_cons, List.map_nil, E.den, O1.ev, ev_add, ev_sub, ev_mul, ev_quo, ev_rem, ev_mx, ev_mn, ev_shl, ev_shr, ev_bit, ev_lt, ev_le, ev_eq, ev_and, ev_or, ev_eqb, ev_cat, ev_rcons, ev_rd]
  simp only [setE_lt, setE_hit, Nat.reduceLT, Nat.reduceLeDiff, Nat.reduceAdd, Nat.reduceSub]
  simp only [E73, E74]
  refine pick230 ?_
  simp only [LV.Ii, LV.Bb, LV.Ll]
  simp only [Bool.or_eq_true, Bool.and_eq_true, Bool.not_eq_true', tf_t, tf_f, Bool.or_eq_false_iff, Bool.and_eq_false_iff]
  simp only [RenoOk, Common, NoCubic, NoBbr, outOf_z, outOf_s, true_implies]
  omega
end Go.Proofs.Ythhnnfmfeofknaa.Sy
