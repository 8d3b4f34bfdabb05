/-
  BbrStays: for all numbers and up to 300 acknowledgements, right or not: a fresh controller stays one that may be; its window is a segment at least, its rounds never go back, its bandwidth is no more than the most that was told; no condition.
-/
import Derived.Test.YthhnnfmfeofknaaCy
import Derived.Test.YthhnnfmfeofknaaRows
namespace Go.Proofs.Ythhnnfmfeofknaa.Sy
open Go Go.RowKit
set_option linter.unusedSimpArgs false
set_option linter.unusedVariables false

theorem step55 (g : Nat → LV) (x0 x1 x2 x3 x4 x5 x6 x7 : LV) (hok : BbrOk g) : F55 [g 0, g 1, g 2, g 3, g 4, g 5, g 6, g 7, g 8, g 9, g 10, g 11, g 12, g 13, g 14, g 15, g 16, g 17, g 18, g 19, g 20, g 21, x0, x1, x2, x3, x4, x5, x6, x7] = z22 ++ [.i 2] ∨
    ∃ h : Nat → LV, F55 [g 0, g 1, g 2, g 3, g 4, g 5, g 6, g 7, g 8, g 9, g 10, g 11, g 12, g 13, g 14, g 15, g 16, g 17, g 18, g 19, g 20, g 21, x0, x1, x2, x3, x4, x5, x6, x7] = l22 h ++ [.i 0] ∧ BbrOk h ∧ h 1 = g 1 ∧ (g 14).I ≤ (h 14).I ∧ (h 11).L.length ≤ (g 11).L.length + 1 ∧ ∀ m, VOk g m → min x3.I 1099511627776 ≤ m → VOk h m := by
  have e0 : BbrOk (outOf [g 0, g 1, g 2, g 3, g 4, g 5, g 6, g 7, g 8, g 9, g 10, g 11, g 12, g 13, g 14, g 15, g 16, g 17, g 18, g 19, g 20, g 21, x0, x1, x2, x3, x4, x5, x6, x7]) ↔ BbrOk g := Iff.rfl
  have e1 : outOf [g 0, g 1, g 2, g 3, g 4, g 5, g 6, g 7, g 8, g 9, g 10, g 11, g 12, g 13, g 14, g 15, g 16, g 17, g 18, g 19, g 20, g 21, x0, x1, x2, x3, x4, x5, x6, x7] 1 = g 1 := rfl
  have e14 : outOf [g 0, g 1, g 2, g 3, g 4, g 5, g 6, g 7, g 8, g 9, g 10, g 11, g 12, g 13, g 14, g 15, g 16, g 17, g 18, g 19, g 20, g 21, x0, x1, x2, x3, x4, x5, x6, x7] 14 = g 14 := rfl
  have e11 : outOf [g 0, g 1, g 2, g 3, g 4, g 5, g 6, g 7, g 8, g 9, g 10, g 11, g 12, g 13, g 14, g 15, g 16, g 17, g 18, g 19, g 20, g 21, x0, x1, x2, x3, x4, x5, x6, x7] 11 = g 11 := rfl
  have e25 : outOf [g 0, g 1, g 2, g 3, g 4, g 5, g 6, g 7, g 8, g 9, g 10, g 11, g 12, g 13, g 14, g 15, g 16, g 17, g 18, g 19, g 20, g 21, x0, x1, x2, x3, x4, x5, x6, x7] 25 = x3 := rfl
  have hF : F55 [g 0, g 1, g 2, g 3, g 4, g 5, g 6, g 7, g 8, g 9, g 10, g 11, g 12, g 13, g 14, g 15, g 16, g 17, g 18, g 19, g 20, g 21, x0, x1, x2, x3, x4, x5, x6, x7] = if Samp (outOf [g 0, g 1, g 2, g 3, g 4, g 5, g 6, g 7, g 8, g 9, g 10, g 11, g 12, g 13, g 14, g 15, g 16, g 17, g 18, g 19, g 20, g 21, x0, x1, x2, x3, x4, x5, x6, x7]) 22 then l22 (ackedC (outOf [g 0, g 1, g 2, g 3, g 4, g 5, g 6, g 7, g 8, g 9, g 10, g 11, g 12, g 13, g 14, g 15, g 16, g 17, g 18, g 19, g 20, g 21, x0, x1, x2, x3, x4, x5, x6, x7])) ++ [.i 0] else z22 ++ [.i 2] := by
    unfold F55
    rw [if_pos (e0.mpr hok)]
  rw [hF]
  clear hF
  have hk := e0.mpr hok
  generalize outOf [g 0, g 1, g 2, g 3, g 4, g 5, g 6, g 7, g 8, g 9, g 10, g 11, g 12, g 13, g 14, g 15, g 16, g 17, g 18, g 19, g 20, g 21, x0, x1, x2, x3, x4, x5, x6, x7] = s at *
  by_cases hs : Samp s 22
  case neg => exact .inl (if_neg hs)
  obtain ⟨_, _, _, _, q1, q2, q3, q4, q5⟩ := acked_ok hk hs
  refine .inr ⟨ackedC s, if_pos hs, q1, q2.trans e1, by rw [← e14]; exact q3, by rw [← e11]; exact q4, fun m hm hr => q5 m ?_ (by rw [e25]; exact hr)⟩
  unfold VOk at *
  rw [e11]; exact hm
structure StayInv (mss : Int) (n i : Nat) (g : Nat → LV) (m : Int) : Prop where
  le : i ≤ n
  ok : BbrOk g
  mss : (g 1).I = mss
  len : (g 11).L.length ≤ i
  lo : 0 ≤ m
  v : VOk g m
def rdx (rows : List (List LV)) (i k : Nat) : LV := (rows.getD i []).getD k (.i 0)
/-! tideway/tidewaylaw18.BbrStays -/
def s14 : Sig := ⟨14, 14, [.col I64, .col I64, .col (.sl [(.int .i64), (.int .i64), (.int .i64), (.int .i64), .bool, (.int .i64), (.int .i64), (.int .i64)])], [.col (.base .bool)]⟩
def t14 : Tr (List (Col × E)) :=
 (.item (.bind 51 [(.v 0), (.v 1)] 3 23)
 (.item (.pre (.kb true) 51 [(.v 0), (.v 1)])
 (.ite (.op2 .or (.op1 .not (.op2 .eq (.v 25) (.ki (0)))) (.op2 .lt (.ki (300)) (.len (.v 2))))
 (.item (.bind 54 [] 26 1)
 (.item (.pre (.kb true) 54 [])
 (.leaf [((.base .bool), (.v 26))])))
 (.loop 27 24 [(.ki (0)), (.v 3), (.v 4), (.v 5), (.v 6), (.v 7), (.v 8), (.v 9), (.v 10), (.v 11), (.v 12), (.v 13), (.v 14), (.v 15), (.v 16), (.v 17), (.v 18), (.v 19), (.v 20), (.v 21), (.v 22), (.v 23), (.v 24), (.ki (0))]
  (.ite (.op2 .lt (.v 27) (.len (.v 2)))
   (.item (.bind 55 [(.v 28), (.v 29), (.v 30), (.v 31), (.v 32), (.v 33), (.v 34), (.v 35), (.v 36), (.v 37), (.v 38), (.v 39), (.v 40), (.v 41), (.v 42), (.v 43), (.v 44), (.v 45), (.v 46), (.v 47), (.v 48), (.v 49), (.op2 (.rd 0) (.v 2) (.v 27)), (.op2 (.rd 1) (.v 2) (.v 27)), (.op2 (.rd 2) (.v 2) (.v 27)), (.op2 (.rd 3) (.v 2) (.v 27)), (.op2 (.rd 4) (.v 2) (.v 27)), (.op2 (.rd 5) (.v 2) (.v 27)), (.op2 (.rd 6) (.v 2) (.v 27)), (.op2 (.rd 7) (.v 2) (.v 27))] 51 23)
   (.item (.need (.op2 .le (.ki (0)) (.v 27)))
   (.item (.need (.op2 .lt (.v 27) (.len (.v 2))))
   (.item (.pre (.kb true) 55 [(.v 28), (.v 29), (.v 30), (.v 31), (.v 32), (.v 33), (.v 34), (.v 35), (.v 36), (.v 37), (.v 38), (.v 39), (.v 40), (.v 41), (.v 42), (.v 43), (.v 44), (.v 45), (.v 46), (.v 47), (.v 48), (.v 49), (.op2 (.rd 0) (.v 2) (.v 27)), (.op2 (.rd 1) (.v 2) (.v 27)), (.op2 (.rd 2) (.v 2) (.v 27)), (.op2 (.rd 3) (.v 2) (.v 27)), (.op2 (.rd 4) (.v 2) (.v 27)), (.op2 (.rd 5) (.v 2) (.v 27)), (.op2 (.rd 6) (.v 2) (.v 27)), (.op2 (.rd 7) (.v 2) (.v 27))])
   (.ite (.op1 .not (.op2 .eq (.v 73) (.ki (0))))
    (.item (.bind 54 [] 74 1)
    (.item (.pre (.op2 .eq (.v 73) (.ki (2))) 54 [])
    (.leaf [((.base .bool), (.op2 .and (.op2 .eq (.v 73) (.ki (2))) (.v 74)))])))
    (.item (.need (.op2 .le (.ki (0)) (.v 27)))
    (.item (.need (.op2 .lt (.v 27) (.len (.v 2))))
    (.item (.bind 53 [(.v 51), (.v 52), (.v 53), (.v 54), (.v 55), (.v 56), (.v 57), (.v 58), (.v 59), (.v 60), (.v 61), (.v 62), (.v 63), (.v 64), (.v 65), (.v 66), (.v 67), (.v 68), (.v 69), (.v 70), (.v 71), (.v 72)] 75 1)
    (.item (.bind 56 [(.v 51), (.v 52), (.v 53), (.v 54), (.v 55), (.v 56), (.v 57), (.v 58), (.v 59), (.v 60), (.v 61), (.v 62), (.v 63), (.v 64), (.v 65), (.v 66), (.v 67), (.v 68), (.v 69), (.v 70), (.v 71), (.v 72)] 76 1)
    (.item (.pre (.kb true) 53 [(.v 51), (.v 52), (.v 53), (.v 54), (.v 55), (.v 56), (.v 57), (.v 58), (.v 59), (.v 60), (.v 61), (.v 62), (.v 63), (.v 64), (.v 65), (.v 66), (.v 67), (.v 68), (.v 69), (.v 70), (.v 71), (.v 72)])
    (.item (.pre (.op1 .not (.op2 .or (.op2 .or (.op1 .not (.op2 .eq (.v 75) (.ki (0)))) (.op2 .lt (.v 53) (.v 0))) (.op2 .lt (.v 65) (.v 42)))) 56 [(.v 51), (.v 52), (.v 53), (.v 54), (.v 55), (.v 56), (.v 57), (.v 58), (.v 59), (.v 60), (.v 61), (.v 62), (.v 63), (.v 64), (.v 65), (.v 66), (.v 67), (.v 68), (.v 69), (.v 70), (.v 71), (.v 72)])
    (.ite (.op2 .or (.op2 .or (.op2 .or (.op1 .not (.op2 .eq (.v 75) (.ki (0)))) (.op2 .lt (.v 53) (.v 0))) (.op2 .lt (.v 65) (.v 42))) (.op2 .lt (.op2 .mx (.v 50) (.op2 .mn (.op2 (.rd 3) (.v 2) (.v 27)) (.ki (1099511627776)))) (.v 76)))
     (.leaf [((.base .bool), (.kb false))])
     (.next 0 [(.op1 (.wrap .i64) (.op2 .add (.v 27) (.ki (1)))), (.v 51), (.v 52), (.v 53), (.v 54), (.v 55), (.v 56), (.v 57), (.v 58), (.v 59), (.v 60), (.v 61), (.v 62), (.v 63), (.v 64), (.v 65), (.v 66), (.v 67), (.v 68), (.v 69), (.v 70), (.v 71), (.v 72), (.op2 .mx (.v 50) (.op2 .mn (.op2 (.rd 3) (.v 2) (.v 27)) (.ki (1099511627776))))])))))))))))))
   (.item (.bind 54 [] 77 1)
   (.item (.pre (.kb true) 54 [])
   (.leaf [((.base .bool), (.v 77))]))))))))
theorem c14 : compile Go.Proofs.Try.prog [s51, s53, s54, s55, s56] Go.Proofs.Try.f14 s14.params s14.results = some t14 := by kernel_rfl
def L14 : List (Nat × (List LV → List LV)) := [(51, FN51), (53, F53), (54, F54), (55, F55), (56, F56)]
def M14 : List (Nat × (List LV → Prop)) := [(53, R53), (55, R55), (56, R56)]
theorem h14 : ∀ sg, sg ∈ [s51, s53, s54, s55, s56] → ConOk Go.Proofs.Try.prog (ap L14) (apR M14) sg := by
  intro sg h
  simp only [List.mem_cons, List.not_mem_nil, or_false] at h
  rcases h with rfl | rfl | rfl | rfl | rfl
  · exact kN51.to rfl rfl
  · exact k53.to rfl rfl
  · exact k54.to rfl rfl
  · exact k55.to rfl rfl
  · exact k56.to rfl rfl
def F14 (_ : List LV) : List LV := [.b true]
def R14 (ls : List LV) : Prop := PFit s14.params ls
set_option maxRecDepth 100000 in
theorem k14 : Kon Go.Proofs.Try.prog s14 F14 R14 := by
  refine con_ok h14 (by kernel_rfl) Go.Proofs.Try.func14 (by kernel_rfl) c14 ?_
  intro ls _ hr
  have hf := fit_flat hr
  have hs : (outOf ls 2).L.length ≤ 9223372036854775807 := fit_sl hf (i := 2) rfl
  simp only [t14, Tr.den, L14, M14, ap, apR, if_true, Nat.reduceEqDiff, if_false, List.map_cons, List.map_nil, E.den, O1.ev, ev_add, ev_sub, ev_mul, ev_quo, ev_rem, ev_mx, ev_mn, ev_shl, ev_shr, ev_bit, ev_lt, ev_le, ev_eq, ev_and, ev_or, ev_eqb, ev_cat, ev_rcons, ev_rd, SameL, Col.same, List.nil_append, nextAt]
  simp only [setE_lt, setE_hit, Nat.reduceLT, Nat.reduceLeDiff, Nat.reduceAdd, Nat.reduceSub]
  simp only [LV.Ii, LV.Bb, LV.Ll]
  have h4 := new_bbr (outOf ls 0) (outOf ls 1)
  generalize FN51 [outOf ls 0, outOf ls 1] = A4 at *
  simp only [F54, F14, outOf_z, LV.Bb, implies_true, true_and, and_true]
  by_cases hc : ¬ (outOf A4 22).I = 0 ∨ 300 < ((outOf ls 2).L.length : Int)
  · rw [if_pos (by simp only [Bool.or_eq_true, Bool.and_eq_true, Bool.not_eq_true', tf_t, tf_f, Bool.or_eq_false_iff, Bool.and_eq_false_iff]; exact hc)]
    trivial
  rw [if_neg (by simp only [Bool.or_eq_true, Bool.and_eq_true, Bool.not_eq_true', tf_t, tf_f, Bool.or_eq_false_iff, Bool.and_eq_false_iff]; exact hc)]
  have h0 : (outOf A4 22).I = 0 := by omega
  have hn : (outOf ls 2).L.length ≤ 300 := by omega
  obtain ⟨g1, g2⟩ := h4
  have g1 := g1 h0
  have g2 := g2 h0
  refine loop_ok (fun xs => ∃ (i : Nat) (g : Nat → LV) (m : Int), xs = [.i i, g 0, g 1, g 2, g 3, g 4, g 5, g 6, g 7, g 8, g 9, g 10, g 11, g 12, g 13, g 14, g 15, g 16, g 17, g 18, g 19, g 20, g 21, .i m] ∧ StayInv (outOf ls 0).I (outOf ls 2).L.length i g m) (fun xs => (outOf ls 2).L.length - (outOf xs 0).I.toNat) ?_ ⟨0, outOf A4, 0, rfl, ⟨Nat.zero_le _, g1, g2.1, by rw [g2.2]; exact Nat.zero_le _, Int.le_refl _, by intro j hj; rw [g2.2] at hj; simp at hj⟩⟩
  clear g1 g2 h0 hc
  rintro xs ih ⟨i, g, m, rfl, hinv⟩ hih
  simp only [outOf_z, outOf_s, LV.Ii, Int.toNat_natCast]
  have hx : ∀ k, ((outOf ls 2).L.getD i []).getD k (.i 0) = rdx (outOf ls 2).L i k := fun _ => rfl
  simp only [hx]
  by_cases hlt : (i : Int) < (outOf ls 2).L.length
  case neg =>
    rw [if_neg (fun h => hlt ((tf_t _).mp h))]
    trivial
  rw [if_pos ((tf_t _).mpr hlt)]
  have n0 : tf ((0 : Int) ≤ i) = true := (tf_t _).mpr (by omega)
  have n1 : tf ((i : Int) < (outOf ls 2).L.length) = true := (tf_t _).mpr hlt
  have hle := hinv.le
  have hlen := hinv.len
  simp only [n0, n1, true_and, true_implies]
  have hfew : R55 [g 0, g 1, g 2, g 3, g 4, g 5, g 6, g 7, g 8, g 9, g 10, g 11, g 12, g 13, g 14, g 15, g 16, g 17, g 18, g 19, g 20, g 21, rdx (outOf ls 2).L i 0, rdx (outOf ls 2).L i 1, rdx (outOf ls 2).L i 2, rdx (outOf ls 2).L i 3, rdx (outOf ls 2).L i 4, rdx (outOf ls 2).L i 5, rdx (outOf ls 2).L i 6, rdx (outOf ls 2).L i 7] := by
    show (g 11).L.length ≤ _
    omega
  refine ⟨hfew, ?_⟩
  rcases step55 g (rdx (outOf ls 2).L i 0) (rdx (outOf ls 2).L i 1) (rdx (outOf ls 2).L i 2) (rdx (outOf ls 2).L i 3) (rdx (outOf ls 2).L i 4) (rdx (outOf ls 2).L i 5) (rdx (outOf ls 2).L i 6) (rdx (outOf ls 2).L i 7) hinv.ok with e | ⟨h, e, q1, q2, q3, q4, q5⟩
  · rw [e]
    simp only [out22z, out22zb, setE_lt, setE_hit, Nat.reduceLT, Nat.reduceLeDiff, Nat.reduceAdd, Nat.reduceSub, outOf_z, outOf_s, LV.Ii]
    rw [if_pos (by simp [tf_d])]
    simp only [tf_d, decide_true, Bool.and_true, implies_true, true_and]
  rw [e]
  simp only [out22, out22b, setE_lt, setE_hit, Nat.reduceLT, Nat.reduceLeDiff, Nat.reduceAdd, Nat.reduceSub, outOf_z, outOf_s, LV.Ii]
  rw [if_neg (by simp [tf_d])]
  simp only [E53, bok22 h, if_pos q1]
  have hw := b_nums q1
  have hm := hinv.mss
  have hlo := hinv.lo
  have q1' : (h 1).I = (outOf ls 0).I := by rw [q2]; exact hm
  have hb : (outOf (F56 [h 0, h 1, h 2, h 3, h 4, h 5, h 6, h 7, h 8, h 9, h 10, h 11, h 12, h 13, h 14, h 15, h 16, h 17, h 18, h 19, h 20, h 21]) 0).I = bwI (h 11).L := by
    simp only [F56, outOf_z, bok22 h, if_pos q1, LV.Ii]
    rfl
  have hv : VOk h (max m (min (rdx (outOf ls 2).L i 3).I 1099511627776)) := by
    refine q5 _ ?_ (by omega)
    intro j hj
    have := hinv.v j hj
    omega
  have hbw : bwI (h 11).L ≤ max m (min (rdx (outOf ls 2).L i 3).I 1099511627776) := by
    by_cases hz : 0 < (h 11).L.length
    · exact hv 0 hz
    · have : (h 11).L = [] := List.length_eq_zero_iff.mp (by omega)
      rw [this]
      show (0 : Int) ≤ _
      omega
  rw [hb]
  have hR : R53 [h 0, h 1, h 2, h 3, h 4, h 5, h 6, h 7, h 8, h 9, h 10, h 11, h 12, h 13, h 14, h 15, h 16, h 17, h 18, h 19, h 20, h 21] := R53_ok h (by omega)
  refine ⟨hR, fun _ => hR, ?_⟩
  rw [if_neg (by simp only [Bool.or_eq_true, Bool.and_eq_true, Bool.not_eq_true', tf_t, tf_f, Bool.or_eq_false_iff, Bool.and_eq_false_iff, not_true_eq_false, not_false_eq_true, false_or, or_false, true_or, or_true, true_and, and_true, LV.Ii]; omega)]
  have ej : IntKind.i64.wrap ((i : Int) + 1) = ((i + 1 : Nat) : Int) := by rw [wrap_i64 (by omega) (by omega)]; omega
  rw [ej]
  exact hih _ ⟨i + 1, h, _, rfl, ⟨by omega, q1, q1', by omega, by omega, hv⟩⟩ (by simp only [outOf_z, LV.Ii]; omega)
end Go.Proofs.Ythhnnfmfeofknaa.Sy
namespace Go.Proofs.Ythhnnfmfeofknaa
open Go.ChangeShapes Go.WideShapes Go.ChangeAt Go.RowKit
theorem bbrStays_own : ownKnob Try.prog.godebug = none := by kernel_rfl
theorem bbrStays_laidOut : laidOutB Try.prog = true := by kernel_rfl
set_option maxRecDepth 100000 in
theorem bbrStays_lifted (os : Os) (started : os.Started) (H : Type) (enc : TypeId × Value → H) :
    ReturnsInHanded {} Try.checked os 14 .any (Rows.bbrStaysSpec.pre6 enc Try.prog Try.f14 Rows.bbrStaysRow.domain false) (Rows.bbrStaysSpec.post enc Try.prog Try.f14 false true false false) := by
  refine returnsInHanded_of_change (C := Try.checked) bbrStays_own started (by kernel_rfl) Try.func14
    (ChangeSpec.witness6 (enc := enc) (C := Try.checked) false ⟨#[], #[.int .i64 0, .int .i64 0, .slice none 0 0], []⟩ 8 (by kernel_rfl) (by kernel_rfl) (by kernel_rfl) (by kernel_rfl)) ?_
  intro W base args ds gs before hval0 hW hcnd _
  refine Sy.law_calls (b := 4) (s := Rows.bbrStaysSpec) (Sy.k14.to (Φ := fun _ => Sy.F14) (Pr := fun _ => Sy.R14) rfl rfl) bbrStays_laidOut (by kernel_rfl) (by kernel_rfl) (by kernel_rfl) rfl ?_ (fun ls hf => ⟨hf, rfl⟩) hval0 hW
  intro ds hd
  have hd : ds.length = 3 := hd
  rcases ds with _ | ⟨d0, ds⟩
  · simp at hd
  rcases ds with _ | ⟨d1, ds⟩
  · simp at hd
  rcases ds with _ | ⟨d2, ds⟩
  · simp at hd
  rcases ds with _ | ⟨d, ds⟩
  · rfl
  · simp at hd
theorem bbrStays_holds : Rows.BbrStaysSaid :=
  OpenClaim.holds_of_wide 14 Try.f14 rfl rfl rfl rfl rfl rfl rfl ⟨rfl, rfl, rfl, rfl, rfl⟩ rfl rfl rfl rfl rfl (by kernel_rfl) Try.func14 (by kernel_rfl)
    (of_decide_eq_true (by kernel_rfl)) (by unfold Func.isWrapper; first | (rw [if_pos (by decide +kernel)]; kernel_rfl) | (rw [if_neg (by decide +kernel)]; exact ⟨rfl, rfl⟩))
    (fun os started H enc _ => bbrStays_lifted os started H enc)
#print axioms bbrStays_holds
end Go.Proofs.Ythhnnfmfeofknaa

