/-
  math/bits.Div64, by hand: quotient and remainder.
-/
import Derived.Test.YthhnnfmfeofknaaCd
import Derived.Test.YthhnnfmfeofknaaPb
import Derived.Lib.ItoaNum
namespace Go.Proofs.Ythhnnfmfeofknaa.Sy
open Go Go.RowKit
set_option linter.unusedSimpArgs false
set_option linter.unusedVariables false

/-- What the shift does: the divisor's highest bit is one, the dividend fits. (B2 is 2^64.) -/
theorem shifted {B2 hi lo y s : Nat} (hB : B2 = 2 ^ 64) (hs : s ≤ 63) (hlo : lo < B2) (hh : hi < y) (hy : y * 2 ^ s < B2) :
    hi * 2 ^ s < B2 ∧ lo / 2 ^ (64 - s) < 2 ^ s ∧ hi * 2 ^ s + lo / 2 ^ (64 - s) < y * 2 ^ s ∧ (hi * B2 + lo) * 2 ^ s = (hi * 2 ^ s + lo / 2 ^ (64 - s)) * B2 + lo * 2 ^ s % B2 := by
  have h2 : 2 ^ (64 - s) * 2 ^ s = B2 := by rw [← Nat.pow_add, show 64 - s + s = 64 by omega, hB]
  clear hB
  have hp : 0 < 2 ^ s := Nat.pow_pos (by omega)
  have hq : 0 < 2 ^ (64 - s) := Nat.pow_pos (by omega)
  generalize 2 ^ s = S at *
  generalize 2 ^ (64 - s) = V at *
  have hd : lo * S / B2 = lo / V := by
    rw [← h2, Nat.mul_div_mul_right _ _ hp]
  have hdm : lo * S / B2 * B2 + lo * S % B2 = lo * S := Nat.div_add_mod' _ _
  have h3 : hi * S ≤ y * S := Nat.mul_le_mul_right _ (by omega)
  have h4 : lo / V < S := by
    rw [Nat.div_lt_iff_lt_mul hq, Nat.mul_comm, h2]; exact hlo
  have h5 : (hi + 1) * S ≤ y * S := Nat.mul_le_mul_right _ (by omega)
  rw [Nat.add_mul, Nat.one_mul] at h5
  refine ⟨by omega, h4, by omega, ?_⟩
  rw [← hd, Nat.add_mul, Nat.add_mul, Nat.mul_right_comm hi B2 S, Nat.add_assoc, hdm]
/-- Two digits are the quotient. -/
theorem two_digits {B A u1 u0 yn : Nat} (hy : 0 < yn) : (A * (B * B) + (u1 * B + u0)) / yn = (A * B + u1) / yn * B + ((A * B + u1) % yn * B + u0) / yn ∧
    (A * (B * B) + (u1 * B + u0)) % yn = ((A * B + u1) % yn * B + u0) % yn := by
  have e1 := Nat.div_add_mod' (A * B + u1) yn
  generalize hQ : (A * B + u1) / yn = Q1 at *
  generalize hR : (A * B + u1) % yn = R1 at *
  have e : A * (B * B) + (u1 * B + u0) = (R1 * B + u0) + Q1 * B * yn := by
    have h1 : Q1 * B * yn = Q1 * yn * B := Nat.mul_right_comm _ _ _
    have h2 : (A * B + u1) * B = A * (B * B) + u1 * B := by rw [Nat.add_mul, Nat.mul_assoc]
    rw [h1, ← Nat.add_assoc, ← h2, ← e1, Nat.add_mul]
    omega
  rw [e]
  constructor
  · rw [Nat.add_mul_div_right _ _ hy, Nat.add_comm]
  · rw [Nat.add_mul_mod_self_right]
theorem two_digits' {B A u1 u0 yn : Nat} (hy : 0 < yn) : ∃ Q1 R1 Q0 R0 : Nat, Q1 * yn + R1 = A * B + u1 ∧ R1 < yn ∧ (A * B + u1) / yn = Q1 ∧ Q0 * yn + R0 = R1 * B + u0 ∧ R0 < yn ∧ (R1 * B + u0) / yn = Q0 ∧
    (A * (B * B) + (u1 * B + u0)) / yn = Q1 * B + Q0 ∧ (A * (B * B) + (u1 * B + u0)) % yn = R0 :=
  ⟨_, _, _, _, Nat.div_add_mod' _ _, Nat.mod_lt _ hy, rfl, Nat.div_add_mod' _ _, Nat.mod_lt _ hy, rfl, (two_digits hy).1, (two_digits hy).2⟩
theorem setE_hit {ρ : Env} {n m i : Nat} {xs : List LV} (h1 : n ≤ i) (h2 : i < n + m) : setE ρ n m xs i = outOf xs (i - n) := by
  simp only [setE]
  rw [if_pos ⟨h1, h2⟩]
def F112 (ls : List LV) : List LV := [.i ((((outOf ls 0).I.toNat * 18446744073709551616 + (outOf ls 1).I.toNat) / (outOf ls 2).I.toNat : Nat) : Int), .i ((((outOf ls 0).I.toNat * 18446744073709551616 + (outOf ls 1).I.toNat) % (outOf ls 2).I.toNat : Nat) : Int)]
def R112 (ls : List LV) : Prop := 0 ≤ (outOf ls 0).I ∧ (outOf ls 0).I < (outOf ls 2).I ∧ (outOf ls 2).I < 18446744073709551616 ∧ 0 ≤ (outOf ls 1).I ∧ (outOf ls 1).I < 18446744073709551616
set_option maxRecDepth 100000 in
theorem k112 : Kon Go.Proofs.Try.prog s112 F112 R112 := by
  refine con_ok h112 (by kernel_rfl) Go.Proofs.Try.func112 (by kernel_rfl) c112 ?_
  intro ls _ hr
  simp only [R112, F112] at hr ⊢
  obtain ⟨h1, h2, h3, h4, h5⟩ := hr
  generalize hx0 : outOf ls 0 = x0 at *
  generalize hx1 : outOf ls 1 = x1 at *
  generalize hx2 : outOf ls 2 = x2 at *
  obtain ⟨hi, ehi⟩ : ∃ hi : Nat, x0.I = (hi : Int) := ⟨_, (Int.toNat_of_nonneg h1).symm⟩
  obtain ⟨lo, elo⟩ : ∃ lo : Nat, x1.I = (lo : Int) := ⟨_, (Int.toNat_of_nonneg h4).symm⟩
  obtain ⟨y, ey⟩ : ∃ y : Nat, x2.I = (y : Int) := ⟨_, (Int.toNat_of_nonneg (by omega)).symm⟩
  rw [ehi] at h2
  rw [elo] at h5
  rw [ey] at h2 h3
  simp only [ehi, elo, ey, Int.toNat_natCast]
  simp only [t112, Tr.den, L112, M112, ap, apR, if_true, List.map_cons, List.map_nil, E.den, O1.ev, O2.ev, setE_lt, setE_hit, Nat.reduceLT, Nat.reduceLeDiff, Nat.reduceAdd, Nat.reduceSub, hx0, hx1, hx2, ehi, elo, ey, LV.I_i, LV.B_b, List.nil_append, nextAt, SameL, Col.same, Int.reduceToNat]
  refine ⟨by simp; omega, by simp; omega, ?_⟩
  split
  · rename_i h0
    simp only [decide_eq_true_eq] at h0
    have h0 : hi = 0 := by omega
    subst h0
    refine ⟨by simp; omega, by simp; omega, ?_⟩
    have hd : lo / y ≤ lo := Nat.div_le_self _ _
    simp only [outOf, List.getD_cons_zero, List.getD_cons_succ, LV.I_i, Nat.zero_mul, Nat.zero_add]
    rw [Int.tdiv_eq_ediv_of_nonneg (by omega), ← Int.natCast_ediv, wrap_u64 (Int.natCast_nonneg _) (by omega), Int.tmod_eq_emod_of_nonneg (by omega), ← Int.natCast_emod]
    exact ⟨rfl, rfl, trivial⟩
  rename_i h0
  have hy0 : 0 < y := by omega
  have hlo : lo < 18446744073709551616 := by omega
  have hy64 : y < 18446744073709551616 := by omega
  have hhi : hi < y := by omega
  obtain ⟨s, hs63, hsI, hy1, hy2⟩ : ∃ s : Nat, s ≤ 63 ∧ (outOf (F125 [x2]) 0).I = (s : Int) ∧ 9223372036854775808 ≤ y * 2 ^ s ∧ y * 2 ^ s < 18446744073709551616 := by
    obtain ⟨b1, b2, b3⟩ := Lib.bitLenAux_bounds 64 y hy64 (by omega)
    have hle : Lib.bitLenAux 64 y ≤ 64 := Lib.bitLen_le y 64 (by omega) hy64
    generalize hL : Lib.bitLenAux 64 y = L at *
    refine ⟨64 - L, by omega, ?_, ?_, ?_⟩
    · simp only [F125, outOf, List.getD_cons_zero, LV.I_i, ey, Int.toNat_natCast, Lib.bitLen, hL]
      omega
    · have : 2 ^ (L - 1) * 2 ^ (64 - L) = 9223372036854775808 := by rw [← Nat.pow_add, show L - 1 + (64 - L) = 63 by omega]
      rw [← this]
      exact Nat.mul_le_mul_right _ b2
    · have : 2 ^ L * 2 ^ (64 - L) = 18446744073709551616 := by rw [← Nat.pow_add, show L + (64 - L) = 64 by omega]
      rw [← this]
      exact (Nat.mul_lt_mul_right (Nat.pow_pos (by omega))).2 b3
  have hws : IntKind.u64.wrap (s : Int) = (s : Int) := wrap_u64 (by omega) (by omega)
  have hmin : min ((s : Int)).toNat IntKind.u64.bits = s := by rw [Int.toNat_natCast]; show min s 64 = s; omega
  have hm32 : min 32 IntKind.u64.bits = 32 := rfl
  have hw64 : IntKind.u64.wrap (64 - (s : Int)) = ((64 - s : Nat) : Int) := by rw [wrap_u64 (by omega) (by omega)]; omega
  have hmin64 : min (((64 - s : Nat) : Int)).toNat IntKind.u64.bits = 64 - s := by rw [Int.toNat_natCast]; show min (64 - s) 64 = 64 - s; omega
  have hp2 : (2 : Int) ^ s = ((2 ^ s : Nat) : Int) := by simp
  have hyn : IntKind.u64.wrap ((y : Int) * 2 ^ s) = ((y * 2 ^ s : Nat) : Int) := by
    rw [hp2, ← Int.natCast_mul, wrap_u64 (by omega) (by omega)]
  obtain ⟨hhs, hlos, hun, hN⟩ := shifted (B2 := 18446744073709551616) (by decide) hs63 hlo hhi hy2
  have hhin : IntKind.u64.wrap ((hi : Int) * 2 ^ s) = ((hi * 2 ^ s : Nat) : Int) := by
    rw [hp2, ← Int.natCast_mul, wrap_u64 (by omega) (by omega)]
  have hlon : IntKind.u64.wrap ((lo : Int) * 2 ^ s) = ((lo * 2 ^ s % 18446744073709551616 : Nat) : Int) := by
    rw [hp2, ← Int.natCast_mul, IntKind.wrap_u64]; omega
  have fdivN : ∀ a k : Nat, (a : Int).fdiv (2 ^ k) = ((a / 2 ^ k : Nat) : Int) := by
    intro a k
    rw [Int.fdiv_eq_ediv_of_nonneg _ (Int.le_of_lt (Int.pow_pos (by omega)))]
    simp
  have mask : ∀ a : Nat, a < 18446744073709551616 → bitI .and .u64 (a : Int) 4294967295 = ((a % 4294967296 : Nat) : Int) := by
    intro a ha
    have h1 := bitI_u64 .and a 4294967295 ha (by omega)
    have e : a &&& 4294967295 = a % 4294967296 := Nat.and_two_pow_sub_one_eq_mod a 32
    rw [show ((4294967295 : Nat) : Int) = 4294967295 from rfl] at h1
    rw [h1]
    simp only
    rw [e, wrap_u64 (by omega) (by omega)]
  have hor : bitI .or .u64 ((hi * 2 ^ s : Nat) : Int) ((lo / 2 ^ (64 - s) : Nat) : Int) = ((hi * 2 ^ s + lo / 2 ^ (64 - s) : Nat) : Int) := by
    have e : hi * 2 ^ s ||| lo / 2 ^ (64 - s) = hi * 2 ^ s + lo / 2 ^ (64 - s) := by rw [Nat.mul_comm hi]; exact or_add hlos
    rw [bitI_u64 .or _ _ hhs (by omega)]
    simp only
    rw [e, wrap_u64 (by omega) (by omega)]
  simp only [hsI, hws, hmin, hm32, hw64, hmin64, hyn, hhin, hlon, fdivN, hor, mask _ hy2, mask _ (Nat.mod_lt _ (show 18446744073709551616 > 0 by decide))]
  have hR : R125 [x2] := by
    simp only [R125, outOf, List.getD_cons_zero, ey]
    omega
  have hfin1 : (hi * 18446744073709551616 + lo) / y = (hi * 18446744073709551616 + lo) * 2 ^ s / (y * 2 ^ s) := (Nat.mul_div_mul_right _ _ (Nat.pow_pos (by omega))).symm
  have hfin2 : (hi * 18446744073709551616 + lo) % y = (hi * 18446744073709551616 + lo) * 2 ^ s % (y * 2 ^ s) / 2 ^ s := by
    rw [Nat.mul_mod_mul_right, Nat.mul_div_cancel _ (Nat.pow_pos (by omega))]
  rw [hN] at hfin1 hfin2
  have hum : lo * 2 ^ s % 18446744073709551616 < 18446744073709551616 := Nat.mod_lt _ (by decide)
  simp only [Nat.reducePow, outOf, List.getD_cons_zero, List.getD_cons_succ, LV.I_i]
  generalize lo * 2 ^ s % 18446744073709551616 = un at *
  generalize hi * 2 ^ s + lo / 2 ^ (64 - s) = A at *
  have hsp : 0 < 2 ^ s := Nat.pow_pos (by omega)
  generalize y * 2 ^ s = yn at *
  have hyd : yn / 4294967296 * 4294967296 + yn % 4294967296 = yn := Nat.div_add_mod' _ _
  have hud : un / 4294967296 * 4294967296 + un % 4294967296 = un := Nat.div_add_mod' _ _
  have hy0' : yn % 4294967296 < 4294967296 := Nat.mod_lt _ (by decide)
  have hu0' : un % 4294967296 < 4294967296 := Nat.mod_lt _ (by decide)
  have hy1' : yn / 4294967296 < 4294967296 ∧ 2147483648 ≤ yn / 4294967296 := by omega
  have hu1' : un / 4294967296 < 4294967296 := by omega
  obtain ⟨Q1, R1, Q0, R0, e1, hR1, hQ1, e2, hR0, hQ0, t1, t2⟩ := two_digits' (B := 4294967296) (A := A) (u1 := un / 4294967296) (u0 := un % 4294967296) (yn := yn) (by omega)
  rw [hud, show 4294967296 * 4294967296 = 18446744073709551616 from rfl] at t1 t2
  rw [hfin1, hfin2, t1, t2]
  clear hfin1 hfin2 hN t1 t2
  generalize yn / 4294967296 = y1 at *
  generalize yn % 4294967296 = y0 at *
  generalize un / 4294967296 = u1 at *
  generalize un % 4294967296 = u0 at *
  have hQ1lt : Q1 < 4294967296 := knuth_lt 4294967296 yn A u1 Q1 hu1' hun hQ1.symm
  have hQ0lt : Q0 < 4294967296 := knuth_lt 4294967296 yn R1 u0 Q0 hu0' hR1 hQ0.symm
  have cnd : ∀ (d r q : Nat), r < 4294967296 → d < 4294967296 → ((decide ((4294967296 : Int) ≤ q) || decide (IntKind.u64.wrap (IntKind.u64.wrap (4294967296 * r) + d) < IntKind.u64.wrap (q * y0))) = true ↔ (4294967296 ≤ q ∨ 4294967296 * r + d < q * y0)) := by
    intro d r q hr hd
    simp only [Bool.or_eq_true, decide_eq_true_eq]
    by_cases hq : 4294967296 ≤ q
    · exact ⟨fun _ => .inl hq, fun _ => .inl (by omega)⟩
    · have h3 : q * y0 ≤ 4294967295 * 4294967295 := Nat.mul_le_mul (by omega) (by omega)
      rw [wrap_u64 (n := 4294967296 * (r : Int)) (by omega) (by omega), wrap_u64 (n := 4294967296 * (r : Int) + d) (by omega) (by omega), ← Int.natCast_mul, wrap_u64 (n := ((q * y0 : Nat) : Int)) (by omega) (by omega)]
      constructor
      · rintro (h | h)
        · omega
        · exact .inr (by omega)
      · rintro (h | h)
        · omega
        · exact .inr (by omega)
  have cnd2 : ∀ r : Nat, r < 4294967296 → IntKind.u64.wrap ((r : Int) + y1) = ((r + y1 : Nat) : Int) := by
    intro r hr
    rw [wrap_u64 (by omega) (by omega)]; omega
  have dec1 : ∀ q : Nat, 1 ≤ q → q ≤ 4294967297 → IntKind.u64.wrap ((q : Int) - 1) = ((q - 1 : Nat) : Int) := by
    intro q h h'
    rw [wrap_u64 (by omega) (by omega)]; omega
  have sub_ok : ∀ (X u Q R : Nat), Q * yn + R = X * 4294967296 + u → R < yn → IntKind.u64.wrap (IntKind.u64.wrap (IntKind.u64.wrap ((X : Int) * 4294967296) + u) - IntKind.u64.wrap ((Q : Int) * yn)) = (R : Int) := by
    intro X u Q R h hlt
    rw [← Int.natCast_mul Q yn]
    generalize Q * yn = p at *
    simp only [IntKind.wrap_u64]
    omega
  have ini : ∀ n : Nat, n < 18446744073709551616 → IntKind.u64.wrap ((n : Int).tdiv y1) = ((n / y1 : Nat) : Int) ∧ IntKind.u64.wrap ((n : Int) - IntKind.u64.wrap (IntKind.u64.wrap ((n : Int).tdiv y1) * y1)) = ((n - n / y1 * y1 : Nat) : Int) := by
    intro n hn
    have h1 : n / y1 ≤ n := Nat.div_le_self _ _
    have h2 : n / y1 * y1 ≤ n := Nat.div_mul_le_self _ _
    have e : IntKind.u64.wrap ((n : Int).tdiv y1) = ((n / y1 : Nat) : Int) := by
      rw [Int.tdiv_eq_ediv_of_nonneg (by omega), ← Int.natCast_ediv, wrap_u64 (Int.natCast_nonneg _) (by omega)]
    refine ⟨e, ?_⟩
    rw [e, ← Int.natCast_mul, wrap_u64 (n := ((n / y1 * y1 : Nat) : Int)) (Int.natCast_nonneg _) (by omega)]
    generalize n / y1 * y1 = z at *
    rw [wrap_u64 (by omega) (by omega)]
    omega
  have fin : ∀ a b : Nat, a < 4294967296 → b < 4294967296 → IntKind.u64.wrap (IntKind.u64.wrap ((a : Int) * 4294967296) + b) = ((a * 4294967296 + b : Nat) : Int) := by
    intro a b ha hb
    rw [wrap_u64 (n := (a : Int) * 4294967296) (by omega) (by omega), wrap_u64 (by omega) (by omega)]
    omega
  have hun21 := sub_ok A u1 Q1 R1 e1 hR1
  have hrem := sub_ok R1 u0 Q0 R0 e2 hR0
  obtain ⟨i1, i2⟩ := ini A (by omega)
  obtain ⟨i3, i4⟩ := ini R1 (by omega)
  have hs0 : decide ((0 : Int) ≤ (s : Int)) = true := by simp
  have hs0' : decide ((0 : Int) ≤ ((64 - s : Nat) : Int)) = true := by simp
  have hy1n : (!decide ((y1 : Int) = 0)) = true := by simp; omega
  refine ⟨fun _ => hR, hs0, hs0, hs0', hs0, hy1n, ?_⟩
  rw [i2, i1]
  refine digit (n := A) (d := u1) (y1 := y1) (y0 := y0) (K := fun q => q = Q1) hy1'.2 hy1'.1 hy0' (by rw [hyd]; exact hun) hu1' ?_ (by rw [hyd]; exact hQ1)
  intro ih r q hr hq hnq hif
  simp only [List.getD_cons_zero, List.getD_cons_succ, LV.I_i]
  by_cases hb : 4294967296 ≤ q ∨ 4294967296 * r + u1 < q * y0
  · rw [if_pos ((cnd u1 r q hr hu1').2 hb)]
    rw [if_pos hb] at hif
    rw [cnd2 r hr]
    by_cases hc : 4294967296 ≤ r + y1
    · rw [if_pos (decide_eq_true (by omega))]
      rw [if_pos hc] at hif
      rw [dec1 q hif.1 hq, hif.2]
      refine ⟨hy1n, ?_⟩
      rw [hun21, i4, i3]
      refine digit (n := R1) (d := u0) (y1 := y1) (y0 := y0) (K := fun q => q = Q0) hy1'.2 hy1'.1 hy0' (by rw [hyd]; exact hR1) hu0' ?_ (by rw [hyd]; exact hQ0)
      intro ih2 r2 q2 hr2 hq2 hnq2 hif2
      simp only [List.getD_cons_zero, List.getD_cons_succ, LV.I_i]
      by_cases hb2 : 4294967296 ≤ q2 ∨ 4294967296 * r2 + u0 < q2 * y0
      · rw [if_pos ((cnd u0 r2 q2 hr2 hu0').2 hb2)]
        rw [if_pos hb2] at hif2
        rw [cnd2 r2 hr2]
        by_cases hc2 : 4294967296 ≤ r2 + y1
        · rw [if_pos (decide_eq_true (by omega))]
          rw [if_pos hc2] at hif2
          rw [dec1 q2 hif2.1 hq2, hif2.2, fin Q1 Q0 hQ1lt hQ0lt, hrem, fdivN]
          exact ⟨hs0, rfl, rfl, trivial⟩
        · rw [if_neg (by rw [decide_eq_true_eq]; omega)]
          rw [if_neg hc2] at hif2
          rw [dec1 q2 hif2.1 hq2]
          exact hif2.2
      · rw [if_neg (fun h => hb2 ((cnd u0 r2 q2 hr2 hu0').1 h))]
        rw [if_neg hb2] at hif2
        rw [hif2.2, fin Q1 Q0 hQ1lt hQ0lt, hrem, fdivN]
        exact ⟨hs0, rfl, rfl, trivial⟩
    · rw [if_neg (by rw [decide_eq_true_eq]; omega)]
      rw [if_neg hc] at hif
      rw [dec1 q hif.1 hq]
      exact hif.2
  · rw [if_neg (fun h => hb ((cnd u1 r q hr hu1').1 h))]
    rw [if_neg hb] at hif
    rw [hif.2]
    refine ⟨hy1n, ?_⟩
    rw [hun21, i4, i3]
    refine digit (n := R1) (d := u0) (y1 := y1) (y0 := y0) (K := fun q => q = Q0) hy1'.2 hy1'.1 hy0' (by rw [hyd]; exact hR1) hu0' ?_ (by rw [hyd]; exact hQ0)
    intro ih2 r2 q2 hr2 hq2 hnq2 hif2
    simp only [List.getD_cons_zero, List.getD_cons_succ, LV.I_i]
    by_cases hb2 : 4294967296 ≤ q2 ∨ 4294967296 * r2 + u0 < q2 * y0
    · rw [if_pos ((cnd u0 r2 q2 hr2 hu0').2 hb2)]
      rw [if_pos hb2] at hif2
      rw [cnd2 r2 hr2]
      by_cases hc2 : 4294967296 ≤ r2 + y1
      · rw [if_pos (decide_eq_true (by omega))]
        rw [if_pos hc2] at hif2
        rw [dec1 q2 hif2.1 hq2, hif2.2, fin Q1 Q0 hQ1lt hQ0lt, hrem, fdivN]
        exact ⟨hs0, rfl, rfl, trivial⟩
      · rw [if_neg (by rw [decide_eq_true_eq]; omega)]
        rw [if_neg hc2] at hif2
        rw [dec1 q2 hif2.1 hq2]
        exact hif2.2
    · rw [if_neg (fun h => hb2 ((cnd u0 r2 q2 hr2 hu0').1 h))]
      rw [if_neg hb2] at hif2
      rw [hif2.2, fin Q1 Q0 hQ1lt hQ0lt, hrem, fdivN]
      exact ⟨hs0, rfl, rfl, trivial⟩
end Go.Proofs.Ythhnnfmfeofknaa.Sy
