namespace Go.Proofs.Ythhnnfmfeofknaa.Sy

/-- The step of Knuth's division: 'n' is less than y, q is at least the digit, and the test says that it is too great. -/
theorem knuth_big (B y1 y0 n d q r Q : Nat) (hn : n = q * y1 + r) (hQ : Q = (n * B + d) / (y1 * B + y0)) (hy : 0 < y1 * B + y0)
    (h : B * r + d < q * y0) : Q < q := by
  have e : q * (y1 * B + y0) = q * y1 * B + q * y0 := by rw [Nat.mul_add, Nat.mul_assoc]
  have e2 : n * B = q * y1 * B + r * B := by rw [hn, Nat.add_mul]
  rw [hQ, Nat.div_lt_iff_lt_mul hy, e]
  have : r * B = B * r := Nat.mul_comm _ _
  omega

theorem knuth_ok (B y1 y0 n d q r Q : Nat) (hn : n = q * y1 + r) (hQ : Q = (n * B + d) / (y1 * B + y0)) (hy : 0 < y1 * B + y0)
    (h : q * y0 ≤ B * r + d) : q ≤ Q := by
  have e : q * (y1 * B + y0) = q * y1 * B + q * y0 := by rw [Nat.mul_add, Nat.mul_assoc]
  have e2 : n * B = q * y1 * B + r * B := by rw [hn, Nat.add_mul]
  rw [hQ, Nat.le_div_iff_mul_le hy, e]
  have : r * B = B * r := Nat.mul_comm _ _
  omega

theorem knuth_lt (B y n d Q : Nat) (hd : d < B) (hn : n < y) (hQ : Q = (n * B + d) / y) : Q < B := by
  rw [hQ, Nat.div_lt_iff_lt_mul (by omega)]
  have : (n + 1) * B ≤ y * B := Nat.mul_le_mul_right B hn
  rw [Nat.add_mul] at this
  have c : B * y = y * B := Nat.mul_comm _ _
  omega

/-- Where the search begins: at least the digit, at most B + 1. -/
theorem knuth_first (B y1 y0 n d Q : Nat) (hd : d < B) (h0 : y0 < B) (h1 : B ≤ 2 * y1) (hn : n < y1 * B + y0) (hQ : Q = (n * B + d) / (y1 * B + y0)) (h1' : 0 < y1) :
    Q ≤ n / y1 ∧ n / y1 ≤ B + 1 := by
  constructor
  · have hm : n / y1 * y1 + n % y1 = n := Nat.div_add_mod' n y1
    have hr := Nat.mod_lt n h1'
    have hlt : (n * B + d) / (y1 * B + y0) < n / y1 + 1 := by
      rw [Nat.div_lt_iff_lt_mul (by omega)]
      generalize n / y1 = q at *
      generalize n % y1 = r at *
      have e : (q + 1) * (y1 * B + y0) = (q * y1 + y1) * B + (q + 1) * y0 := by rw [Nat.mul_add, ← Nat.mul_assoc, Nat.add_mul q 1 y1, Nat.one_mul]
      rw [e]
      have : (n + 1) * B ≤ (q * y1 + y1) * B := Nat.mul_le_mul_right B (by omega)
      rw [Nat.add_mul] at this
      have : 0 ≤ (q + 1) * y0 := Nat.zero_le _
      omega
    omega
  · have : n / y1 < B + 2 := by
      rw [Nat.div_lt_iff_lt_mul h1']
      have e : (B + 2) * y1 = y1 * B + 2 * y1 := by rw [Nat.add_mul, Nat.mul_comm B]
      omega
    omega

end Go.Proofs.Ythhnnfmfeofknaa.Sy
