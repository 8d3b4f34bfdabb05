/-
  bbr: what the steps behind an acknowledgement keep: a controller that may be stays one.
-/
import Derived.Test.YthhnnfmfeofknaaCv
namespace Go.Proofs.Ythhnnfmfeofknaa.Sy
open Go Go.RowKit
set_option linter.unusedSimpArgs false
set_option linter.unusedVariables false

theorem fset_eq (f : Nat → LV) (k : Nat) (x : LV) : fset f k x k = x := if_pos rfl
theorem fset_ne (f : Nat → LV) {k i : Nat} (x : LV) (h : i ≠ k) : fset f k x i = f i := if_neg h
theorem round_ok {f : Nat → LV} {given : LV} (h : BbrOk f) (hg : TimeI given.I) : BbrOk (roundC f given) ∧ (f 14).I ≤ (roundC f given 14).I := by
  obtain ⟨h1, h2, h3, hF, hE⟩ := h
  have e14 : (roundC f given 14).I = min 1125899906842624 ((f 14).I + 1) := rfl
  have e15 : (roundC f given 15).I = given.I := rfl
  have hk : ∀ i, i ≠ 14 → i ≠ 15 → roundC f given i = f i := fun i a b => by unfold roundC; rw [fset_ne _ _ a, fset_ne _ _ b]
  unfold BbrPlain NoCubic BbrNums TimeI SizeI at *
  refine ⟨⟨?_, ?_, ?_, ?_, ?_⟩, by rw [e14]; omega⟩
  · unfold BbrPlain; rw [hk 0 (by omega) (by omega), hk 1 (by omega) (by omega), hk 2 (by omega) (by omega), hk 3 (by omega) (by omega), hk 4 (by omega) (by omega)]; exact h1
  · unfold NoCubic; rw [hk 5 (by omega) (by omega), hk 6 (by omega) (by omega), hk 7 (by omega) (by omega), hk 8 (by omega) (by omega), hk 9 (by omega) (by omega)]; exact h2
  · unfold BbrNums TimeI SizeI; rw [hk 12 (by omega) (by omega), hk 13 (by omega) (by omega), hk 19 (by omega) (by omega), hk 20 (by omega) (by omega), hk 16 (by omega) (by omega), hk 17 (by omega) (by omega), hk 18 (by omega) (by omega), hk 21 (by omega) (by omega), hk 10 (by omega) (by omega), e14, e15]; omega
  · rw [hk 11 (by omega) (by omega)]; exact hF
  · rw [hk 11 (by omega) (by omega), e14]
    intro i hi
    have := hE i hi
    omega
theorem FOk_take {rows : List (List LV)} (h : FOk rows true) (n : Nat) : FOk (rows.take n) true := by
  intro i hi
  rw [List.length_take] at hi
  have g : ∀ j, j ≤ i → (rows.take n).getD j [] = rows.getD j [] := by
    intro j hj
    rw [List.getD_eq_getElem?_getD, List.getD_eq_getElem?_getD, List.getElem?_take, if_pos (by omega)]
  have ea : ∀ j, j ≤ i → atR (rows.take n) j = atR rows j := fun j hj => by unfold atR; rw [g j hj]
  have ev : ∀ j, j ≤ i → vR (rows.take n) j = vR rows j := fun j hj => by unfold vR; rw [g j hj]
  have := h i (by omega)
  simp only [FOkAt] at this ⊢
  rw [ea i (by omega), ev i (by omega), ea (i - 1) (by omega), ev (i - 1) (by omega)]
  exact this
theorem take_v {rows : List (List LV)} {n j : Nat} (h : j < (rows.take n).length) : vR (rows.take n) j = vR rows j ∧ atR (rows.take n) j = atR rows j ∧ j < rows.length := by
  rw [List.length_take] at h
  have g : (rows.take n).getD j [] = rows.getD j [] := by
    rw [List.getD_eq_getElem?_getD, List.getD_eq_getElem?_getD, List.getElem?_take, if_pos (by omega)]
  refine ⟨by unfold vR; rw [g], by unfold atR; rw [g], by omega⟩
/-- The values of a controller's entries are m at most. -/
abbrev VOk (f : Nat → LV) (m : Int) : Prop := ∀ i, i < (f 11).L.length → vR (f 11).L i ≤ m
theorem speed_ok {f : Nat → LV} {rate : Int} {idle : Bool} (h : BbrOk f) (hr : 0 ≤ rate) : BbrOk (speedC f rate idle) ∧ (∀ i, i ≠ 11 → speedC f rate idle i = f i) ∧ (speedC f rate idle 11).L.length ≤ (f 11).L.length + 1 ∧
    ∀ m, VOk f m → min rate 1099511627776 ≤ m → VOk (speedC f rate idle) m := by
  have hn := b_nums h
  obtain ⟨h1, h2, h3, hF, hE⟩ := h
  unfold speedC
  by_cases hns : NoSpeed f rate idle
  · rw [if_pos hns]
    exact ⟨⟨h1, h2, h3, hF, hE⟩, fun _ _ => rfl, by omega, fun m hm _ => hm⟩
  rw [if_neg hns]
  clear hns
  have hk : ∀ i, i ≠ 11 → fset f 11 (outOf (F118 (speedArgs f rate)) 0) i = f i := fun i hi => fset_ne _ _ hi
  have e11 : fset f 11 (outOf (F118 (speedArgs f rate)) 0) 11 = outOf (F118 (speedArgs f rate)) 0 := fset_eq _ _ _
  -- the rows that are put to, and the value
  have key : ∀ (rows : List (List LV)) (v : Int), rows.length ≤ (f 11).L.length → FOk rows true → (∀ j, j < rows.length → vR rows j ≤ 1099511627776 ∧ atR rows j ≤ (f 14).I ∧ ∃ j', j' < (f 11).L.length ∧ vR rows j = vR (f 11).L j') →
      (0 < rows.length → atR rows (rows.length - 1) < (f 14).I) → (0 ≤ v ∧ v ≤ 1099511627776) → (∀ m, VOk f m → min rate 1099511627776 ≤ m → v ≤ m) → speedArgs f rate = [.l rows, f 14, .i v, .i 10, .b true] →
      FOk (outOf (F118 (speedArgs f rate)) 0).L true ∧ EOk (outOf (F118 (speedArgs f rate)) 0).L (f 14).I ∧ (outOf (F118 (speedArgs f rate)) 0).L.length ≤ (f 11).L.length + 1 ∧ ∀ m, VOk f m → min rate 1099511627776 ≤ m → ∀ i, i < (outOf (F118 (speedArgs f rate)) 0).L.length → vR (outOf (F118 (speedArgs f rate)) 0).L i ≤ m := by
    intro rows v q1 q2 q3 q4 q5 q6 q7
    have hP : PutOk rows (f 14).I (LV.i v).I 10 true := by
      refine ⟨q2, ?_, by omega, q4⟩
      have := hn.2.1.2.2.2.2.2
      unfold TimeI at this
      simp only [LV.Ii, EntryOk]
      omega
    have e : outOf (F118 (speedArgs f rate)) 0 = .l (putL rows (f 14) (.i v) 10 true) := by
      rw [q7]
      simp only [F118, outOf_z, outOf_s, LV.Ii, LV.Ll, LV.Bb]
      simp only [LV.Ii] at hP
      rw [if_pos hP]
      rfl
    obtain ⟨g1, g2, g3⟩ := put_ok hP
    rw [e]
    simp only [LV.Ll, LV.Ii] at g1 g2 g3 ⊢
    refine ⟨g1, fun i hi => ?_, by omega, fun m hm hmr i hi => ?_⟩
    · rcases g3 i hi with ⟨a, b⟩ | ⟨j, hj, a, b⟩
      · rw [a, b]; omega
      · rw [a, b]; have := q3 j hj; omega
    · rcases g3 i hi with ⟨a, _⟩ | ⟨j, hj, a, _⟩
      · rw [a]; exact q6 m hm hmr
      · rw [a]
        obtain ⟨j', hj', ej⟩ := (q3 j hj).2.2
        rw [ej]; exact hm j' hj'
  have main : FOk (outOf (F118 (speedArgs f rate)) 0).L true ∧ EOk (outOf (F118 (speedArgs f rate)) 0).L (f 14).I ∧ (outOf (F118 (speedArgs f rate)) 0).L.length ≤ (f 11).L.length + 1 ∧ ∀ m, VOk f m → min rate 1099511627776 ≤ m → ∀ i, i < (outOf (F118 (speedArgs f rate)) 0).L.length → vR (outOf (F118 (speedArgs f rate)) 0).L i ≤ m := by
    by_cases hT : Tops f
    · have hlast := hE ((f 11).L.length - 1) (by have := hT.1; omega)
      have hlastF := hF ((f 11).L.length - 1) (by have := hT.1; omega)
      refine key ((f 11).L.take ((f 11).L.length - 1)) (max (min 1099511627776 rate) (vR (f 11).L ((f 11).L.length - 1))) (by rw [List.length_take]; omega) (FOk_take hF _) ?_ ?_ ⟨by omega, by omega⟩ ?_ (by unfold speedArgs; rw [if_pos hT, if_pos hT])
      · intro j hj
        obtain ⟨a, b, c⟩ := take_v hj
        have := hE j c
        exact ⟨by omega, by omega, j, c, a⟩
      · intro h0
        obtain ⟨a, b, c⟩ := take_v (rows := (f 11).L) (n := (f 11).L.length - 1) (j := ((f 11).L.take ((f 11).L.length - 1)).length - 1) (by omega)
        rw [b]
        have hl : ((f 11).L.take ((f 11).L.length - 1)).length = (f 11).L.length - 1 := by rw [List.length_take]; omega
        rw [hl] at h0 ⊢
        have := (hlastF.2 (by omega)).1
        rw [hT.2] at this
        exact this
      · intro m hm hmr
        have := hm ((f 11).L.length - 1) (by have := hT.1; omega)
        omega
    · refine key (f 11).L (min 1099511627776 rate) (Nat.le_refl _) hF ?_ ?_ ⟨by omega, by omega⟩ ?_ (by unfold speedArgs; rw [if_neg hT, if_neg hT])
      · intro j hj
        have := hE j hj
        exact ⟨by omega, by omega, j, hj, rfl⟩
      · intro h0
        have := (hE ((f 11).L.length - 1) (by omega)).2
        have : atR (f 11).L ((f 11).L.length - 1) ≠ (f 14).I := fun e => hT ⟨h0, e⟩
        omega
      · intro m hm hmr
        omega
  obtain ⟨m1, m2, m3, m4⟩ := main
  refine ⟨⟨?_, ?_, ?_, ?_, ?_⟩, hk, by rw [e11]; exact m3, fun m hm hmr => by unfold VOk; rw [e11]; exact m4 m hm hmr⟩
  · unfold BbrPlain; rw [hk 0 (by omega), hk 1 (by omega), hk 2 (by omega), hk 3 (by omega), hk 4 (by omega)]; exact h1
  · unfold NoCubic; rw [hk 5 (by omega), hk 6 (by omega), hk 7 (by omega), hk 8 (by omega), hk 9 (by omega)]; exact h2
  · unfold BbrNums
    rw [hk 10 (by omega), hk 12 (by omega), hk 13 (by omega), hk 14 (by omega), hk 15 (by omega), hk 16 (by omega), hk 17 (by omega), hk 18 (by omega), hk 19 (by omega), hk 20 (by omega), hk 21 (by omega)]; exact h3
  · rw [e11]; exact m1
  · rw [e11, hk 14 (by omega)]; exact m2
/-- A step that leaves kind, entries and round alone, and numbers that may be. -/
theorem keep_ok {f g : Nat → LV} (h : BbrOk f) (h0 : ∀ i, i ≠ 2 → i ≠ 10 → i ≠ 12 → i ≠ 13 → i ≠ 16 → i ≠ 17 → i ≠ 18 → i ≠ 19 → i ≠ 20 → i ≠ 21 → g i = f i) (h2 : (f 1).I ≤ (g 2).I ∧ (g 2).I ≤ 1073741824)
    (hn : (TimeI (g 12).I ∧ TimeI (g 13).I ∧ TimeI (g 19).I ∧ TimeI (g 20).I) ∧ (0 ≤ (g 16).I ∧ (g 16).I ≤ 1099511627776) ∧ (0 ≤ (g 17).I ∧ (g 17).I ≤ 3) ∧ (0 ≤ (g 18).I ∧ (g 18).I ≤ 7) ∧ SizeI (g 21).I ∧ 1 ≤ (g 10).I ∧ (g 10).I ≤ 4) : BbrOk g := by
  obtain ⟨p1, p2, p3, hF, hE⟩ := h
  have k : ∀ i, (i < 2 ∨ (2 < i ∧ i < 10) ∨ i = 11 ∨ i = 14 ∨ i = 15) → g i = f i := fun i hi => h0 i (by omega) (by omega) (by omega) (by omega) (by omega) (by omega) (by omega) (by omega) (by omega) (by omega)
  refine ⟨?_, ?_, ?_, ?_, ?_⟩
  · unfold BbrPlain at *; rw [k 0 (by omega), k 1 (by omega), k 3 (by omega), k 4 (by omega)]; omega
  · unfold NoCubic at *; rw [k 5 (by omega), k 6 (by omega), k 7 (by omega), k 8 (by omega), k 9 (by omega)]; exact p2
  · unfold BbrNums at *
    rw [k 14 (by omega), k 15 (by omega)]
    exact ⟨⟨hn.1.1, hn.1.2.1, p3.1.2.2.1, hn.1.2.2.1, hn.1.2.2.2, p3.1.2.2.2.2.2⟩, hn.2⟩
  · rw [k 11 (by omega)]; exact hF
  · rw [k 11 (by omega), k 14 (by omega)]; exact hE
abbrev Keeps (f g : Nat → LV) : Prop := BbrOk g ∧ g 1 = f 1 ∧ g 11 = f 11 ∧ g 14 = f 14
theorem short_ok {f : Nat → LV} {now rtt : LV} (h : BbrOk f) (hn : TimeI now.I) (hr : TimeI rtt.I) : Keeps f (shortC f now rtt) := by
  have b := b_nums h
  unfold shortC
  split
  · refine ⟨keep_ok h (fun i _ _ _ _ _ _ _ _ _ _ => by unfold fset; rw [if_neg (by omega), if_neg (by omega)]) ?_ ?_, rfl, rfl, rfl⟩
    · simp only [fset, Nat.reduceEqDiff, if_true, if_false]; omega
    · simp only [fset, Nat.reduceEqDiff, if_true, if_false]
      exact ⟨⟨hr, hn, b.2.1.2.2.2.1, b.2.1.2.2.2.2.1⟩, b.2.2⟩
  · exact ⟨h, rfl, rfl, rfl⟩
theorem full_ok {f : Nat → LV} (h : BbrOk f) : Keeps f (fullC f) := by
  have b := b_nums h
  have hb := bw_range h
  unfold TimeI SizeI at b
  unfold fullC
  split
  · exact ⟨h, rfl, rfl, rfl⟩
  split
  · refine ⟨keep_ok h (fun i _ _ _ _ _ _ _ _ _ _ => by unfold fset; rw [if_neg (by omega), if_neg (by omega)]) ?_ ?_, rfl, rfl, rfl⟩
    · simp only [fset, Nat.reduceEqDiff, if_true, if_false]; omega
    · simp only [fset, Nat.reduceEqDiff, if_true, if_false, LV.Ii, TimeI, SizeI]
      omega
  · refine ⟨keep_ok h (fun i _ _ _ _ _ _ _ _ _ _ => by unfold fset; rw [if_neg (by omega), if_neg (by omega)]) ?_ ?_, rfl, rfl, rfl⟩
    · simp only [fset, Nat.reduceEqDiff, if_true, if_false]; omega
    · simp only [fset, Nat.reduceEqDiff, if_true, if_false, LV.Ii, TimeI, SizeI]
      split <;> omega
theorem probe_ok {f : Nat → LV} {now : LV} (h : BbrOk f) (hn : TimeI now.I) : Keeps f (probeC f now) := by
  have b := b_nums h
  unfold TimeI SizeI at *
  refine ⟨keep_ok h (fun i _ _ _ _ _ _ _ _ _ _ => by unfold probeC fset; rw [if_neg (by omega), if_neg (by omega), if_neg (by omega)]) ?_ ?_, rfl, rfl, rfl⟩
  · simp only [probeC, fset, Nat.reduceEqDiff, if_true, if_false]; omega
  · simp only [probeC, fset, Nat.reduceEqDiff, if_true, if_false, LV.Ii, TimeI, SizeI]
    omega
theorem cycle_ok {f : Nat → LV} {now : LV} {fl : Int} (h : BbrOk f) (hn : TimeI now.I) : Keeps f (cycleC f now fl) := by
  have b := b_nums h
  unfold cycleC
  split
  · exact probe_ok h hn
  split
  · unfold TimeI SizeI at *
    refine ⟨keep_ok h (fun i _ _ _ _ _ _ _ _ _ _ => by unfold fset; rw [if_neg (by omega), if_neg (by omega)]) ?_ ?_, rfl, rfl, rfl⟩
    · simp only [fset, Nat.reduceEqDiff, if_true, if_false]; omega
    · simp only [fset, Nat.reduceEqDiff, if_true, if_false, LV.Ii, TimeI, SizeI]
      omega
  · exact ⟨h, rfl, rfl, rfl⟩
theorem askB_ok {f : Nat → LV} {now : LV} (h : BbrOk f) (hn : TimeI now.I) : Keeps f (askB f now) := by
  have b := b_nums h
  unfold TimeI SizeI at *
  refine ⟨keep_ok h (fun i _ _ _ _ _ _ _ _ _ _ => by unfold askB fset; rw [if_neg (by omega), if_neg (by omega), if_neg (by omega)]) ?_ ?_, rfl, rfl, rfl⟩
  · simp only [askB, fset, Nat.reduceEqDiff, if_true, if_false, LV.Ii]; omega
  · simp only [askB, fset, Nat.reduceEqDiff, if_true, if_false, LV.Ii, TimeI, SizeI]
    omega
theorem ask_ok {f : Nat → LV} {now : LV} {fl : Int} {late : Bool} (h : BbrOk f) (hn : TimeI now.I) : Keeps f (askC f now fl late) := by
  have b := b_nums h
  unfold askC
  split
  · unfold TimeI SizeI at *
    refine ⟨keep_ok h (fun i _ _ _ _ _ _ _ _ _ _ => by unfold fset; rw [if_neg (by omega), if_neg (by omega), if_neg (by omega)]) ?_ ?_, rfl, rfl, rfl⟩
    · simp only [fset, Nat.reduceEqDiff, if_true, if_false]; omega
    · simp only [fset, Nat.reduceEqDiff, if_true, if_false, LV.Ii, TimeI, SizeI]
      omega
  split
  · exact ⟨h, rfl, rfl, rfl⟩
  split
  · unfold TimeI SizeI at *
    refine ⟨keep_ok h (fun i _ _ _ _ _ _ _ _ _ _ => by unfold fset; rw [if_neg (by omega)]) ?_ ?_, rfl, rfl, rfl⟩
    · simp only [fset, Nat.reduceEqDiff, if_true, if_false]; omega
    · simp only [fset, Nat.reduceEqDiff, if_true, if_false, LV.Ii, TimeI, SizeI]
      omega
  split
  · obtain ⟨k1, k2, k3, k4⟩ := askB_ok (now := now) h hn
    split
    · obtain ⟨l1, l2, l3, l4⟩ := probe_ok (now := now) k1 hn
      exact ⟨l1, l2.trans k2, l3.trans k3, l4.trans k4⟩
    · have b' := b_nums k1
      unfold TimeI SizeI at b'
      refine ⟨keep_ok k1 (fun i _ _ _ _ _ _ _ _ _ _ => by unfold fset; rw [if_neg (by omega)]) ?_ ?_, k2, k3, k4⟩
      · rw [fset_ne _ _ (by omega)]; omega
      · rw [fset_eq, fset_ne _ _ (by omega : 12 ≠ 10), fset_ne _ _ (by omega : 13 ≠ 10), fset_ne _ _ (by omega : 19 ≠ 10), fset_ne _ _ (by omega : 20 ≠ 10), fset_ne _ _ (by omega : 16 ≠ 10), fset_ne _ _ (by omega : 17 ≠ 10), fset_ne _ _ (by omega : 18 ≠ 10), fset_ne _ _ (by omega : 21 ≠ 10)]
        simp only [LV.Ii, TimeI, SizeI]
        omega
  · exact ⟨h, rfl, rfl, rfl⟩
theorem window_ok {f : Nat → LV} {a : Int} (h : BbrOk f) : Keeps f (windowC f a) := by
  have b := b_nums h
  have hc := clampI_range (windowI f a) (l := (f 1).I) (h := 1073741824) (by omega)
  unfold TimeI SizeI at *
  refine ⟨keep_ok h (fun i _ _ _ _ _ _ _ _ _ _ => by unfold windowC fset; rw [if_neg (by omega)]) ?_ ?_, rfl, rfl, rfl⟩
  · show (f 1).I ≤ (LV.i (clampI (windowI f a) (f 1).I 1073741824)).I ∧ (LV.i (clampI (windowI f a) (f 1).I 1073741824)).I ≤ 1073741824
    rw [LV.Ii]; exact hc
  · simp only [windowC, fset, Nat.reduceEqDiff, if_true, if_false, TimeI, SizeI]
    omega

end Go.Proofs.Ythhnnfmfeofknaa.Sy
