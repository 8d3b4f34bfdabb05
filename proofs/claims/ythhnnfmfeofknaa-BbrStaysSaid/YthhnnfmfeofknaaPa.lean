/-
  Plain arithmetic: cube roots by bits, bit operations of numbers, no program in sight.
-/
import Derived.Test.YthhnnfmfeofknaaSyA
import Derived.Laws.Bits64b
namespace Go.Proofs.Ythhnnfmfeofknaa.Sy
open Go Go.RowKit
set_option linter.unusedSimpArgs false
set_option linter.unusedVariables false

/-- From a multiple of 2^k on: the greatest whose cube is at most n, found bit by bit. -/
def cbrtGo (n : Int) : Nat → Int → Int
  | 0, x => x
  | k + 1, x => cbrtGo n k (if (x + 2 ^ k) * (x + 2 ^ k) * (x + 2 ^ k) ≤ n then x + 2 ^ k else x)
structure Root (n r : Int) : Prop where
  lo : 0 ≤ r
  hi : r ≤ 2097151
  le : r = 0 ∨ r * r * r ≤ n
  gt : r = 2097151 ∨ n < (r + 1) * (r + 1) * (r + 1)
theorem cube_mono {a b : Int} (h0 : 0 ≤ a) (h : a ≤ b) : a * a * a ≤ b * b * b := by
  have h1 : a * a ≤ b * b := Int.mul_le_mul h h h0 (by omega)
  exact Int.mul_le_mul h1 h h0 (Int.mul_nonneg (by omega) (by omega))
theorem Root.unique {n r s : Int} (hr : Root n r) (hs : Root n s) : r = s := by
  rcases Int.lt_trichotomy r s with h | h | h
  · exfalso
    have h1 : s * s * s ≤ n := by rcases hs.le with h0 | h0; have := hr.lo; omega; exact h0
    have h2 : n < (r + 1) * (r + 1) * (r + 1) := by rcases hr.gt with h0 | h0; have := hs.hi; omega; exact h0
    have := cube_mono (a := r + 1) (b := s) (by have := hr.lo; omega) (by omega)
    omega
  · exact h
  · exfalso
    have h1 : r * r * r ≤ n := by rcases hr.le with h0 | h0; have := hs.lo; omega; exact h0
    have h2 : n < (s + 1) * (s + 1) * (s + 1) := by rcases hs.gt with h0 | h0; have := hr.hi; omega; exact h0
    have := cube_mono (a := s + 1) (b := r) (by have := hs.lo; omega) (by omega)
    omega
theorem cbrtGo_spec (n : Int) : ∀ (k : Nat) (x : Int), 0 ≤ x → (x = 0 ∨ x * x * x ≤ n) → (x + 2 ^ k = 2097152 ∨ n < (x + 2 ^ k) * (x + 2 ^ k) * (x + 2 ^ k)) → x + 2 ^ k ≤ 2097152 → Root n (cbrtGo n k x) := by
  intro k
  induction k with
  | zero =>
    intro x h0 h1 h2 h3
    simp only [cbrtGo]
    simp only [Int.pow_zero] at h2 h3
    exact ⟨h0, by omega, h1, by rcases h2 with h | h; exact .inl (by omega); exact .inr h⟩
  | succ k ih =>
    intro x h0 h1 h2 h3
    simp only [cbrtGo]
    have e : (2 : Int) ^ (k + 1) = 2 ^ k + 2 ^ k := by rw [Int.pow_succ]; omega
    have hp : (0 : Int) < 2 ^ k := Int.pow_pos (by omega)
    rw [e, ← Int.add_assoc] at h2 h3
    split
    · rename_i hc
      exact ih _ (by omega) (.inr hc) h2 h3
    · rename_i hc
      exact ih x h0 h1 (.inr (by omega)) (by omega)
theorem cbrtGo_root (n : Int) : Root n (cbrtGo n 21 0) := by
  refine cbrtGo_spec n 21 0 (by omega) (.inl rfl) (.inl (by decide)) (by decide)

/-! ### Bits -/
theorem bitI_u64 (op : BinOp) (x y : Nat) (hx : x < 18446744073709551616) (hy : y < 18446744073709551616) : bitI op .u64 x y = IntKind.u64.wrap (match op with
    | .and => ((x &&& y : Nat) : Int)
    | .or => ((x ||| y : Nat) : Int)
    | .xor => ((x ^^^ y : Nat) : Int)
    | _ => ((BitVec.ofInt 64 (x : Int) &&& ~~~BitVec.ofInt 64 (y : Int)).toNat : Int)) := by
  have hx' : (BitVec.ofInt 64 (x : Int)).toNat = x := by rw [BitVec.toNat_ofInt]; omega
  have hy' : (BitVec.ofInt 64 (y : Int)).toNat = y := by rw [BitVec.toNat_ofInt]; omega
  unfold bitI
  show IntKind.u64.wrap _ = _
  congr 1
  cases op <;> first | rfl | (show ((BitVec.ofInt 64 (x : Int) &&& BitVec.ofInt 64 (y : Int)).toNat : Int) = _; rw [BitVec.toNat_and, hx', hy']) |
    (show ((BitVec.ofInt 64 (x : Int) ||| BitVec.ofInt 64 (y : Int)).toNat : Int) = _; rw [BitVec.toNat_or, hx', hy']) | (show ((BitVec.ofInt 64 (x : Int) ^^^ BitVec.ofInt 64 (y : Int)).toNat : Int) = _; rw [BitVec.toNat_xor, hx', hy'])
theorem bitI_i64 (op : BinOp) (x y : Nat) (hx : x < 18446744073709551616) (hy : y < 18446744073709551616) : bitI op .i64 x y = IntKind.i64.wrap (match op with
    | .and => ((x &&& y : Nat) : Int)
    | .or => ((x ||| y : Nat) : Int)
    | .xor => ((x ^^^ y : Nat) : Int)
    | _ => ((BitVec.ofInt 64 (x : Int) &&& ~~~BitVec.ofInt 64 (y : Int)).toNat : Int)) := by
  have hx' : (BitVec.ofInt 64 (x : Int)).toNat = x := by rw [BitVec.toNat_ofInt]; omega
  have hy' : (BitVec.ofInt 64 (y : Int)).toNat = y := by rw [BitVec.toNat_ofInt]; omega
  unfold bitI
  show IntKind.i64.wrap _ = _
  congr 1
  cases op <;> first | rfl | (show ((BitVec.ofInt 64 (x : Int) &&& BitVec.ofInt 64 (y : Int)).toNat : Int) = _; rw [BitVec.toNat_and, hx', hy']) |
    (show ((BitVec.ofInt 64 (x : Int) ||| BitVec.ofInt 64 (y : Int)).toNat : Int) = _; rw [BitVec.toNat_or, hx', hy']) | (show ((BitVec.ofInt 64 (x : Int) ^^^ BitVec.ofInt 64 (y : Int)).toNat : Int) = _; rw [BitVec.toNat_xor, hx', hy'])
theorem or_add {i c y : Nat} (hy : y < 2 ^ i) : 2 ^ i * c ||| y = 2 ^ i * c + y := (Nat.two_pow_add_eq_or_of_lt hy c).symm
end Go.Proofs.Ythhnnfmfeofknaa.Sy
