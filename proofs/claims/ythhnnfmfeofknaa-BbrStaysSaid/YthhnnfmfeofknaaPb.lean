/-
  The search for one digit of a long division (Knuth), as a loop.
-/
import Derived.Test.YthhnnfmfeofknaaCc
import Derived.Test.YthhnnfmfeofknaaDiv
namespace Go.Proofs.Ythhnnfmfeofknaa.Sy
open Go Go.RowKit
set_option linter.unusedSimpArgs false
set_option linter.unusedVariables false

theorem digit {n d y1 y0 : Nat} (h1 : 2147483648 ≤ y1) (h1' : y1 < 4294967296) (h0 : y0 < 4294967296) (hn : n < y1 * 4294967296 + y0) (hd : d < 4294967296) {F : (List LV → Prop) → List LV → Prop} {K : Nat → Prop}
    (hF : ∀ (ih : List LV → Prop) (r q : Nat), r < 4294967296 → q ≤ 4294967297 → n = q * y1 + r →
      (if 4294967296 ≤ q ∨ 4294967296 * r + d < q * y0 then (if 4294967296 ≤ r + y1 then 1 ≤ q ∧ K (q - 1) else 1 ≤ q ∧ ih [.i ((r + y1 : Nat) : Int), .i ((q - 1 : Nat) : Int)]) else q < 4294967296 ∧ K q) → F ih [.i (r : Int), .i (q : Int)])
    (hK : K ((n * 4294967296 + d) / (y1 * 4294967296 + y0))) : ∃ k, iter F k [.i ((n - n / y1 * y1 : Nat) : Int), .i ((n / y1 : Nat) : Int)] := by
  obtain ⟨Q, hQ⟩ : ∃ Q, Q = (n * 4294967296 + d) / (y1 * 4294967296 + y0) := ⟨_, rfl⟩
  rw [← hQ] at hK
  have hf := knuth_first 4294967296 y1 y0 n d Q hd h0 (by omega) hn hQ (by omega)
  have hlt := knuth_lt 4294967296 (y1 * 4294967296 + y0) n d Q hd hn hQ
  have hm : n / y1 * y1 + n % y1 = n := Nat.div_add_mod' n y1
  have hr := Nat.mod_lt n (show y1 > 0 by omega)
  refine loop_ok (fun xs => ∃ r q : Nat, xs = [.i (r : Int), .i (q : Int)] ∧ r < 4294967296 ∧ q ≤ 4294967297 ∧ n = q * y1 + r ∧ Q ≤ q) (fun xs => (outOf xs 1).I.toNat) ?_ ⟨_, _, rfl, by omega, hf.2, by omega, hf.1⟩
  rintro xs ih ⟨r, q, rfl, hr1, hq1, hnq, hQq⟩ hih
  refine hF ih r q hr1 hq1 hnq ?_
  split
  · rename_i hbig
    have hQlt : Q < q := by
      rcases hbig with h | h
      · omega
      · exact knuth_big 4294967296 y1 y0 n d q r Q hnq hQ (by omega) h
    obtain ⟨q', rfl⟩ : ∃ q', q = q' + 1 := ⟨q - 1, by omega⟩
    have hn' : n = q' * y1 + (r + y1) := by rw [hnq, Nat.add_mul]; omega
    simp only [Nat.add_sub_cancel]
    split
    · rename_i hge
      refine ⟨by omega, ?_⟩
      have hle : q' ≤ Q := by
        refine knuth_ok 4294967296 y1 y0 n d q' (r + y1) Q hn' hQ (by omega) ?_
        have h3 : q' * y0 ≤ 4294967296 * 4294967296 := Nat.mul_le_mul (by omega) (by omega)
        omega
      have : q' = Q := by omega
      rw [this]; exact hK
    · rename_i hlt2
      exact ⟨by omega, hih _ ⟨r + y1, q', rfl, by omega, by omega, hn', by omega⟩ (by simp only [outOf, List.getD_cons_zero, List.getD_cons_succ, LV.I_i]; omega)⟩
  · rename_i hok
    have hle : q ≤ Q := knuth_ok 4294967296 y1 y0 n d q r Q hnq hQ (by omega) (by omega)
    have : q = Q := by omega
    exact ⟨by omega, by rw [this]; exact hK⟩
end Go.Proofs.Ythhnnfmfeofknaa.Sy
