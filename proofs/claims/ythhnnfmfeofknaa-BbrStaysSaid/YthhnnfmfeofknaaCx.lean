/-
  bbr: Acked, as a whole.
-/
import Derived.Test.YthhnnfmfeofknaaCw
namespace Go.Proofs.Ythhnnfmfeofknaa.Sy
open Go Go.RowKit
set_option linter.unusedSimpArgs false
set_option linter.unusedVariables false

theorem E97 (s : Nat → LV) : FN97 [s 0, s 1, s 2, s 3, s 4, s 5, s 6, s 7, s 8, s 9, s 10, s 11, s 12, s 13, s 14, s 15, s 16, s 17, s 18, s 19, s 20, s 21, s 22, s 23, s 24, s 25, s 26, s 27, s 28, s 29] = .b (decide (¬ (s 28).I < (s 15).I)) :: l22 (if (s 28).I < (s 15).I then s else roundC s (s 27)) := by
  unfold FN97
  simp only [outOf_z, outOf_s]
  by_cases h : (s 28).I < (s 15).I
  · rw [if_pos h, if_pos h, decide_eq_false (fun h' => h' h)]; rfl
  · rw [if_neg h, if_neg h, decide_eq_true h]; rfl
theorem E98 (g s : Nat → LV) : F98 [g 0, g 1, g 2, g 3, g 4, g 5, g 6, g 7, g 8, g 9, g 10, g 11, g 12, g 13, g 14, g 15, g 16, g 17, g 18, g 19, g 20, g 21, s 22, s 23, s 24, s 25, s 26, s 27, s 28, s 29] = l22 (speedC g (s 25).I (s 26).B) := by
  unfold F98
  simp only [outOf_z, outOf_s]
  have hn : NoSpeed (outOf [g 0, g 1, g 2, g 3, g 4, g 5, g 6, g 7, g 8, g 9, g 10, g 11, g 12, g 13, g 14, g 15, g 16, g 17, g 18, g 19, g 20, g 21, s 22, s 23, s 24, s 25, s 26, s 27, s 28, s 29]) (s 25).I (s 26).B ↔ NoSpeed g (s 25).I (s 26).B := Iff.rfl
  have hT : Tops (outOf [g 0, g 1, g 2, g 3, g 4, g 5, g 6, g 7, g 8, g 9, g 10, g 11, g 12, g 13, g 14, g 15, g 16, g 17, g 18, g 19, g 20, g 21, s 22, s 23, s 24, s 25, s 26, s 27, s 28, s 29]) ↔ Tops g := Iff.rfl
  have hA : speedArgs (outOf [g 0, g 1, g 2, g 3, g 4, g 5, g 6, g 7, g 8, g 9, g 10, g 11, g 12, g 13, g 14, g 15, g 16, g 17, g 18, g 19, g 20, g 21, s 22, s 23, s 24, s 25, s 26, s 27, s 28, s 29]) (s 25).I = speedArgs g (s 25).I := by
    unfold speedArgs
    simp only [hT]
    simp only [outOf_z, outOf_s]
  unfold speedC
  simp only [hn, hA]
  unfold l22
  split <;> rfl
theorem E99 (g s : Nat → LV) : F99 [g 0, g 1, g 2, g 3, g 4, g 5, g 6, g 7, g 8, g 9, g 10, g 11, g 12, g 13, g 14, g 15, g 16, g 17, g 18, g 19, g 20, g 21, s 22, s 23, s 24, s 25, s 26, s 27, s 28, s 29] = .b (decide (Late g (s 22).I)) :: l22 (shortC g (s 22) (s 24)) := by
  unfold F99 shortC Late
  simp only [outOf_z, outOf_s]
  congr 1
  unfold l22
  split <;> rfl
theorem E100 (g : Nat → LV) : F100 [g 0, g 1, g 2, g 3, g 4, g 5, g 6, g 7, g 8, g 9, g 10, g 11, g 12, g 13, g 14, g 15, g 16, g 17, g 18, g 19, g 20, g 21] = l22 (fullC g) := by
  unfold F100 fullC
  simp only [outOf_z, outOf_s]
  unfold l22
  split
  · rfl
  · split <;> rfl
theorem hold_l (g s : Nat → LV) : holdI (outOf [g 0, g 1, g 2, g 3, g 4, g 5, g 6, g 7, g 8, g 9, g 10, g 11, g 12, g 13, g 14, g 15, g 16, g 17, g 18, g 19, g 20, g 21, s 22, s 23, s 24, s 25, s 26, s 27, s 28, s 29]) = holdI g := rfl
theorem E101 (g s : Nat → LV) : F101 [g 0, g 1, g 2, g 3, g 4, g 5, g 6, g 7, g 8, g 9, g 10, g 11, g 12, g 13, g 14, g 15, g 16, g 17, g 18, g 19, g 20, g 21, s 22, s 23, s 24, s 25, s 26, s 27, s 28, s 29] = l22 (cycleC g (s 22) (s 29).I) := by
  unfold F101 cycleC
  simp only [hold_l g s]
  simp only [outOf_z, outOf_s]
  unfold l22 probeC
  split
  · rfl
  · split <;> rfl
theorem l22_same {f g : Nat → LV} (h : ∀ i, i < 22 → f i = g i) : l22 f = l22 g := by
  unfold l22
  rw [h 0 (by omega), h 1 (by omega), h 2 (by omega), h 3 (by omega), h 4 (by omega), h 5 (by omega), h 6 (by omega), h 7 (by omega), h 8 (by omega), h 9 (by omega), h 10 (by omega), h 11 (by omega), h 12 (by omega), h 13 (by omega), h 14 (by omega), h 15 (by omega), h 16 (by omega), h 17 (by omega), h 18 (by omega), h 19 (by omega), h 20 (by omega), h 21 (by omega)]
theorem fset_same {f g : Nat → LV} (h : ∀ i, i < 22 → f i = g i) (k : Nat) (x : LV) : ∀ i, i < 22 → fset f k x i = fset g k x i := by
  intro i hi
  unfold fset
  rw [h i hi]
theorem ask_same {f g : Nat → LV} (h : ∀ i, i < 22 → f i = g i) (n : LV) (fl : Int) (b : Bool) : l22 (askC f n fl b) = l22 (askC g n fl b) := by
  unfold askC askB probeC
  rw [h 10 (by omega), h 20 (by omega), h 1 (by omega), h 17 (by omega), h 2 (by omega), h 21 (by omega)]
  split
  · exact l22_same (fset_same (fset_same (fset_same h _ _) _ _) _ _)
  split
  · exact l22_same h
  split
  · exact l22_same (fset_same h _ _)
  split
  · split
    · exact l22_same (fset_same (fset_same (fset_same (fset_same (fset_same (fset_same h _ _) _ _) _ _) _ _) _ _) _ _)
    · exact l22_same (fset_same (fset_same (fset_same (fset_same h _ _) _ _) _ _) _ _)
  · exact l22_same h
theorem E102 (g s : Nat → LV) (b : Bool) : F102 [g 0, g 1, g 2, g 3, g 4, g 5, g 6, g 7, g 8, g 9, g 10, g 11, g 12, g 13, g 14, g 15, g 16, g 17, g 18, g 19, g 20, g 21, s 22, s 23, s 24, s 25, s 26, s 27, s 28, s 29, .b b] = l22 (askC g (s 22) (s 29).I b) := by
  refine Eq.trans (b := l22 (askC (outOf [g 0, g 1, g 2, g 3, g 4, g 5, g 6, g 7, g 8, g 9, g 10, g 11, g 12, g 13, g 14, g 15, g 16, g 17, g 18, g 19, g 20, g 21, s 22, s 23, s 24, s 25, s 26, s 27, s 28, s 29, .b b]) (s 22) (s 29).I b)) ?_ (ask_same ?_ _ _ _)
  · unfold F102
    simp only [outOf_z, outOf_s, LV.Bb]
  · intro i hi
    match i, hi with
    | 0, _ => rfl 
    | 1, _ => rfl 
    | 2, _ => rfl 
    | 3, _ => rfl 
    | 4, _ => rfl 
    | 5, _ => rfl 
    | 6, _ => rfl 
    | 7, _ => rfl 
    | 8, _ => rfl 
    | 9, _ => rfl 
    | 10, _ => rfl 
    | 11, _ => rfl 
    | 12, _ => rfl 
    | 13, _ => rfl 
    | 14, _ => rfl 
    | 15, _ => rfl 
    | 16, _ => rfl 
    | 17, _ => rfl 
    | 18, _ => rfl 
    | 19, _ => rfl 
    | 20, _ => rfl 
    | 21, _ => rfl
    | n + 22, h => omega
theorem E103 (g s : Nat → LV) : F103 [g 0, g 1, g 2, g 3, g 4, g 5, g 6, g 7, g 8, g 9, g 10, g 11, g 12, g 13, g 14, g 15, g 16, g 17, g 18, g 19, g 20, g 21, s 22, s 23, s 24, s 25, s 26, s 27, s 28, s 29] = l22 (windowC g (s 23).I) := by
  unfold F103 windowC windowI
  simp only [hold_l g s]
  simp only [outOf_z, outOf_s]
  rfl

def a2 (s : Nat → LV) : Nat → LV := speedC (if (s 28).I < (s 15).I then s else roundC s (s 27)) (s 25).I (s 26).B
def a3 (s : Nat → LV) : Nat → LV := shortC (a2 s) (s 22) (s 24)
abbrev FullP (s : Nat → LV) : Prop := ¬ (s 28).I < (s 15).I ∧ (a3 s 10).I = 1 ∧ ¬ (s 26).B = true
def a4 (s : Nat → LV) : Nat → LV := if FullP s then fullC (a3 s) else a3 s
def ackedC (s : Nat → LV) : Nat → LV := windowC (askC (cycleC (a4 s) (s 22) (s 29).I) (s 22) (s 29).I (decide (Late (a2 s) (s 22).I))) (s 23).I
theorem a1_ok {s : Nat → LV} (h : BbrOk s) (hs : Samp s 22) : BbrOk (if (s 28).I < (s 15).I then s else roundC s (s 27)) ∧ (if (s 28).I < (s 15).I then s else roundC s (s 27)) 1 = s 1 ∧ (if (s 28).I < (s 15).I then s else roundC s (s 27)) 11 = s 11 ∧ (s 14).I ≤ ((if (s 28).I < (s 15).I then s else roundC s (s 27)) 14).I := by
  by_cases hc : (s 28).I < (s 15).I
  · simp only [if_pos hc]
    exact ⟨h, trivial, trivial, Int.le_refl _⟩
  · simp only [if_neg hc]
    obtain ⟨k1, k2⟩ := round_ok h hs.2.2.2.2.1
    exact ⟨k1, by unfold roundC; rw [fset_ne _ _ (by omega), fset_ne _ _ (by omega)], by unfold roundC; rw [fset_ne _ _ (by omega), fset_ne _ _ (by omega)], k2⟩
theorem a2_ok {s : Nat → LV} (h : BbrOk s) (hs : Samp s 22) : BbrOk (a2 s) ∧ a2 s 1 = s 1 ∧ (s 14).I ≤ (a2 s 14).I ∧ (a2 s 11).L.length ≤ (s 11).L.length + 1 ∧ ∀ m, VOk s m → min (s 25).I 1099511627776 ≤ m → VOk (a2 s) m := by
  unfold a2
  obtain ⟨k1, k2, k3, k4⟩ := a1_ok h hs
  generalize (if (s 28).I < (s 15).I then s else roundC s (s 27)) = g at *
  obtain ⟨l1, l2, l3, l4⟩ := speed_ok (idle := (s 26).B) k1 hs.2.2.2.1
  refine ⟨l1, (l2 1 (by omega)).trans k2, by rw [l2 14 (by omega)]; exact k4, by rw [k3] at l3; exact l3, fun m hm hr => l4 m ?_ hr⟩
  unfold VOk at *
  rw [k3]; exact hm
theorem acked_ok {s : Nat → LV} (h : BbrOk s) (hs : Samp s 22) : BbrOk (a3 s) ∧ BbrOk (a4 s) ∧ BbrOk (cycleC (a4 s) (s 22) (s 29).I) ∧ BbrOk (askC (cycleC (a4 s) (s 22) (s 29).I) (s 22) (s 29).I (decide (Late (a2 s) (s 22).I))) ∧
    BbrOk (ackedC s) ∧ ackedC s 1 = s 1 ∧ (s 14).I ≤ (ackedC s 14).I ∧ (ackedC s 11).L.length ≤ (s 11).L.length + 1 ∧ ∀ m, VOk s m → min (s 25).I 1099511627776 ≤ m → VOk (ackedC s) m := by
  obtain ⟨k1, k2, k3, k4, k5⟩ := a2_ok h hs
  have m3 : Keeps (a2 s) (a3 s) := short_ok k1 hs.1 hs.2.2.1
  have m4 : Keeps (a2 s) (a4 s) := by
    unfold a4
    split
    · obtain ⟨q1, q2, q3, q4⟩ := full_ok m3.1
      exact ⟨q1, q2.trans m3.2.1, q3.trans m3.2.2.1, q4.trans m3.2.2.2⟩
    · exact m3
  unfold ackedC
  generalize decide (Late (a2 s) (s 22).I) = lt
  have m5 : Keeps (a2 s) (cycleC (a4 s) (s 22) (s 29).I) := by
    obtain ⟨q1, q2, q3, q4⟩ := cycle_ok (fl := (s 29).I) m4.1 hs.1
    exact ⟨q1, q2.trans m4.2.1, q3.trans m4.2.2.1, q4.trans m4.2.2.2⟩
  have m6 : Keeps (a2 s) (askC (cycleC (a4 s) (s 22) (s 29).I) (s 22) (s 29).I lt) := by
    obtain ⟨q1, q2, q3, q4⟩ := ask_ok (fl := (s 29).I) (late := lt) m5.1 hs.1
    exact ⟨q1, q2.trans m5.2.1, q3.trans m5.2.2.1, q4.trans m5.2.2.2⟩
  generalize askC (cycleC (a4 s) (s 22) (s 29).I) (s 22) (s 29).I lt = g at *
  obtain ⟨q1, q2, q3, q4⟩ := window_ok (a := (s 23).I) m6.1
  have e1 := q2.trans m6.2.1
  have e2 := q3.trans m6.2.2.1
  have e3 := q4.trans m6.2.2.2
  refine ⟨m3.1, m4.1, m5.1, m6.1, q1, e1.trans k2, by rw [e3]; exact k3, by rw [e2]; exact k4, fun m hm hr => ?_⟩
  have := k5 m hm hr
  unfold VOk at *
  rw [e2]; exact this
instance (f : Nat → LV) (o : Nat) : Decidable (Samp f o) := inferInstance
def F55 (ls : List LV) : List LV := if BbrOk (outOf ls) then if Samp (outOf ls) 22 then l22 (ackedC (outOf ls)) ++ [.i 0] else z22 ++ [.i 2] else z22 ++ [.i 230]
def R55 (ls : List LV) : Prop := Few (outOf ls)
theorem den_call {Φ : Nat → List LV → List LV} {Pr : Nat → List LV → Prop} {α : Type} {key n m : Nat} {es : List E} {g : E} {t : Tr α} {ρ : Env} {ks : List (List LV → Prop)} {Q : Env → List (List LV → Prop) → α → Prop} (args outs : List LV) (ha : es.map (·.den ρ) = args) (ho : Φ key args = outs) (ha' : es.map (·.den (setE ρ n m outs)) = args) (hp : Pr key args) (h : t.den Φ Pr (setE ρ n m outs) ks Q) :
    (Tr.item (.bind key es n m) (.item (.pre g key es) t)).den Φ Pr ρ ks Q := by
  simp only [Tr.den]
  rw [ha, ho, ha']
  exact ⟨fun _ => hp, h⟩
theorem den_t {Φ : Nat → List LV → List LV} {Pr : Nat → List LV → Prop} {α : Type} {c : E} {a b : Tr α} {ρ : Env} {ks : List (List LV → Prop)} {Q : Env → List (List LV → Prop) → α → Prop} (hc : (c.den ρ).B = true) (h : a.den Φ Pr ρ ks Q) : (Tr.ite c a b).den Φ Pr ρ ks Q := by
  simp only [Tr.den, hc, if_true]; exact h
theorem den_f {Φ : Nat → List LV → List LV} {Pr : Nat → List LV → Prop} {α : Type} {c : E} {a b : Tr α} {ρ : Env} {ks : List (List LV → Prop)} {Q : Env → List (List LV → Prop) → α → Prop} (hc : ¬ (c.den ρ).B = true) (h : b.den Φ Pr ρ ks Q) : (Tr.ite c a b).den Φ Pr ρ ks Q := by
  simp only [Tr.den, if_neg hc]; exact h
theorem Tr.den_bind {Φ : Nat → List LV → List LV} {Pr : Nat → List LV → Prop} {α : Type} {key n m : Nat} {es : List E} {t : Tr α} {ρ : Env} {ks : List (List LV → Prop)} {Q : Env → List (List LV → Prop) → α → Prop} (args : List LV) (ha : es.map (·.den ρ) = args) (h : t.den Φ Pr (setE ρ n m (Φ key args)) ks Q) : (Tr.item (.bind key es n m) t).den Φ Pr ρ ks Q := by
  simp only [Tr.den]; rw [ha]; exact h
theorem Tr.den_pre {Φ : Nat → List LV → List LV} {Pr : Nat → List LV → Prop} {α : Type} {key : Nat} {es : List E} {g : E} {t : Tr α} {ρ : Env} {ks : List (List LV → Prop)} {Q : Env → List (List LV → Prop) → α → Prop} (args : List LV) (ha : es.map (·.den ρ) = args) (hp : Pr key args) (h : t.den Φ Pr ρ ks Q) : (Tr.item (.pre g key es) t).den Φ Pr ρ ks Q := by
  simp only [Tr.den]; rw [ha]; exact ⟨fun _ => hp, h⟩
theorem samp_l (g s : Nat → LV) : Samp (outOf [g 0, g 1, g 2, g 3, g 4, g 5, g 6, g 7, g 8, g 9, g 10, g 11, g 12, g 13, g 14, g 15, g 16, g 17, g 18, g 19, g 20, g 21, s 22, s 23, s 24, s 25, s 26, s 27, s 28, s 29]) 22 ↔ Samp s 22 := Iff.rfl
theorem samp_l' (g s : Nat → LV) (b : LV) : Samp (outOf [g 0, g 1, g 2, g 3, g 4, g 5, g 6, g 7, g 8, g 9, g 10, g 11, g 12, g 13, g 14, g 15, g 16, g 17, g 18, g 19, g 20, g 21, s 22, s 23, s 24, s 25, s 26, s 27, s 28, s 29, b]) 22 ↔ Samp s 22 := Iff.rfl
theorem bok_l (g s : Nat → LV) : BbrOk (outOf [g 0, g 1, g 2, g 3, g 4, g 5, g 6, g 7, g 8, g 9, g 10, g 11, g 12, g 13, g 14, g 15, g 16, g 17, g 18, g 19, g 20, g 21, s 22, s 23, s 24, s 25, s 26, s 27, s 28, s 29]) ↔ BbrOk g := Iff.rfl
theorem bok_l' (g s : Nat → LV) (b : LV) : BbrOk (outOf [g 0, g 1, g 2, g 3, g 4, g 5, g 6, g 7, g 8, g 9, g 10, g 11, g 12, g 13, g 14, g 15, g 16, g 17, g 18, g 19, g 20, g 21, s 22, s 23, s 24, s 25, s 26, s 27, s 28, s 29, b]) ↔ BbrOk g := Iff.rfl

/-! tideway/bbr.Acked -/
def s55 : Sig := ⟨55, 55, [.agg [I64, I64, I64, I64, I64, I64, I64, I64, I64, I64, I64, (.sl [(.int .i64), (.int .i64)]), I64, I64, I64, I64, I64, I64, I64, I64, I64, I64], .agg [I64, I64, I64, I64, (.base .bool), I64, I64, I64]], [.agg [I64, I64, I64, I64, I64, I64, I64, I64, I64, I64, I64, (.sl [(.int .i64), (.int .i64)]), I64, I64, I64, I64, I64, I64, I64, I64, I64, I64], .col I64]⟩
def t55 : Tr (List (Col × E)) :=
 (.item (.bind 53 [(.v 0), (.v 1), (.v 2), (.v 3), (.v 4), (.v 5), (.v 6), (.v 7), (.v 8), (.v 9), (.v 10), (.v 11), (.v 12), (.v 13), (.v 14), (.v 15), (.v 16), (.v 17), (.v 18), (.v 19), (.v 20), (.v 21)] 30 1)
 (.item (.pre (.kb true) 53 [(.v 0), (.v 1), (.v 2), (.v 3), (.v 4), (.v 5), (.v 6), (.v 7), (.v 8), (.v 9), (.v 10), (.v 11), (.v 12), (.v 13), (.v 14), (.v 15), (.v 16), (.v 17), (.v 18), (.v 19), (.v 20), (.v 21)])
 (.ite (.op1 .not (.op2 .eq (.v 30) (.ki (0))))
 (.leaf [(I64, (.ki (0))), (I64, (.ki (0))), (I64, (.ki (0))), (I64, (.ki (0))), (I64, (.ki (0))), (I64, (.ki (0))), (I64, (.ki (0))), (I64, (.ki (0))), (I64, (.ki (0))), (I64, (.ki (0))), (I64, (.ki (0))), ((.sl [(.int .i64), (.int .i64)]), .lnil), (I64, (.ki (0))), (I64, (.ki (0))), (I64, (.ki (0))), (I64, (.ki (0))), (I64, (.ki (0))), (I64, (.ki (0))), (I64, (.ki (0))), (I64, (.ki (0))), (I64, (.ki (0))), (I64, (.ki (0))), (I64, (.v 30))])
 (.item (.bind 93 [(.ki (1125899906842624)), (.op2 .cat (.op2 .rcons (.v 22) .rnil) (.op2 .cat (.op2 .rcons (.v 27) .rnil) (.op2 .cat (.op2 .rcons (.v 28) .rnil) (.op2 .cat (.op2 .rcons (.v 24) .rnil) .lnil))))] 31 1)
 (.item (.bind 93 [(.ki (1073741824)), (.op2 .cat (.op2 .rcons (.v 23) .rnil) (.op2 .cat (.op2 .rcons (.v 29) .rnil) .lnil))] 32 1)
 (.item (.pre (.kb true) 93 [(.ki (1125899906842624)), (.op2 .cat (.op2 .rcons (.v 22) .rnil) (.op2 .cat (.op2 .rcons (.v 27) .rnil) (.op2 .cat (.op2 .rcons (.v 28) .rnil) (.op2 .cat (.op2 .rcons (.v 24) .rnil) .lnil))))])
 (.item (.pre (.op1 .not (.op1 .not (.v 31))) 93 [(.ki (1073741824)), (.op2 .cat (.op2 .rcons (.v 23) .rnil) (.op2 .cat (.op2 .rcons (.v 29) .rnil) .lnil))])
 (.ite (.op2 .or (.op2 .or (.op1 .not (.v 31)) (.op1 .not (.v 32))) (.op2 .lt (.v 25) (.ki (0))))
  (.leaf [(I64, (.ki (0))), (I64, (.ki (0))), (I64, (.ki (0))), (I64, (.ki (0))), (I64, (.ki (0))), (I64, (.ki (0))), (I64, (.ki (0))), (I64, (.ki (0))), (I64, (.ki (0))), (I64, (.ki (0))), (I64, (.ki (0))), ((.sl [(.int .i64), (.int .i64)]), .lnil), (I64, (.ki (0))), (I64, (.ki (0))), (I64, (.ki (0))), (I64, (.ki (0))), (I64, (.ki (0))), (I64, (.ki (0))), (I64, (.ki (0))), (I64, (.ki (0))), (I64, (.ki (0))), (I64, (.ki (0))), (I64, (.ki (2)))])
  (.item (.bind 97 [(.v 0), (.v 1), (.v 2), (.v 3), (.v 4), (.v 5), (.v 6), (.v 7), (.v 8), (.v 9), (.v 10), (.v 11), (.v 12), (.v 13), (.v 14), (.v 15), (.v 16), (.v 17), (.v 18), (.v 19), (.v 20), (.v 21), (.v 22), (.v 23), (.v 24), (.v 25), (.v 26), (.v 27), (.v 28), (.v 29)] 33 23)
  (.item (.pre (.kb true) 97 [(.v 0), (.v 1), (.v 2), (.v 3), (.v 4), (.v 5), (.v 6), (.v 7), (.v 8), (.v 9), (.v 10), (.v 11), (.v 12), (.v 13), (.v 14), (.v 15), (.v 16), (.v 17), (.v 18), (.v 19), (.v 20), (.v 21), (.v 22), (.v 23), (.v 24), (.v 25), (.v 26), (.v 27), (.v 28), (.v 29)])
  (.item (.bind 98 [(.v 34), (.v 35), (.v 36), (.v 37), (.v 38), (.v 39), (.v 40), (.v 41), (.v 42), (.v 43), (.v 44), (.v 45), (.v 46), (.v 47), (.v 48), (.v 49), (.v 50), (.v 51), (.v 52), (.v 53), (.v 54), (.v 55), (.v 22), (.v 23), (.v 24), (.v 25), (.v 26), (.v 27), (.v 28), (.v 29)] 56 22)
  (.item (.pre (.kb true) 98 [(.v 34), (.v 35), (.v 36), (.v 37), (.v 38), (.v 39), (.v 40), (.v 41), (.v 42), (.v 43), (.v 44), (.v 45), (.v 46), (.v 47), (.v 48), (.v 49), (.v 50), (.v 51), (.v 52), (.v 53), (.v 54), (.v 55), (.v 22), (.v 23), (.v 24), (.v 25), (.v 26), (.v 27), (.v 28), (.v 29)])
  (.item (.bind 99 [(.v 56), (.v 57), (.v 58), (.v 59), (.v 60), (.v 61), (.v 62), (.v 63), (.v 64), (.v 65), (.v 66), (.v 67), (.v 68), (.v 69), (.v 70), (.v 71), (.v 72), (.v 73), (.v 74), (.v 75), (.v 76), (.v 77), (.v 22), (.v 23), (.v 24), (.v 25), (.v 26), (.v 27), (.v 28), (.v 29)] 78 23)
  (.item (.pre (.kb true) 99 [(.v 56), (.v 57), (.v 58), (.v 59), (.v 60), (.v 61), (.v 62), (.v 63), (.v 64), (.v 65), (.v 66), (.v 67), (.v 68), (.v 69), (.v 70), (.v 71), (.v 72), (.v 73), (.v 74), (.v 75), (.v 76), (.v 77), (.v 22), (.v 23), (.v 24), (.v 25), (.v 26), (.v 27), (.v 28), (.v 29)])
  (.ite (.op2 .and (.op2 .and (.v 33) (.op2 .eq (.v 89) (.ki (1)))) (.op1 .not (.v 26)))
   (.item (.bind 100 [(.v 79), (.v 80), (.v 81), (.v 82), (.v 83), (.v 84), (.v 85), (.v 86), (.v 87), (.v 88), (.v 89), (.v 90), (.v 91), (.v 92), (.v 93), (.v 94), (.v 95), (.v 96), (.v 97), (.v 98), (.v 99), (.v 100)] 101 22)
   (.item (.pre (.kb true) 100 [(.v 79), (.v 80), (.v 81), (.v 82), (.v 83), (.v 84), (.v 85), (.v 86), (.v 87), (.v 88), (.v 89), (.v 90), (.v 91), (.v 92), (.v 93), (.v 94), (.v 95), (.v 96), (.v 97), (.v 98), (.v 99), (.v 100)])
   (.item (.bind 101 [(.v 101), (.v 102), (.v 103), (.v 104), (.v 105), (.v 106), (.v 107), (.v 108), (.v 109), (.v 110), (.v 111), (.v 112), (.v 113), (.v 114), (.v 115), (.v 116), (.v 117), (.v 118), (.v 119), (.v 120), (.v 121), (.v 122), (.v 22), (.v 23), (.v 24), (.v 25), (.v 26), (.v 27), (.v 28), (.v 29)] 123 22)
   (.item (.pre (.kb true) 101 [(.v 101), (.v 102), (.v 103), (.v 104), (.v 105), (.v 106), (.v 107), (.v 108), (.v 109), (.v 110), (.v 111), (.v 112), (.v 113), (.v 114), (.v 115), (.v 116), (.v 117), (.v 118), (.v 119), (.v 120), (.v 121), (.v 122), (.v 22), (.v 23), (.v 24), (.v 25), (.v 26), (.v 27), (.v 28), (.v 29)])
   (.item (.bind 102 [(.v 123), (.v 124), (.v 125), (.v 126), (.v 127), (.v 128), (.v 129), (.v 130), (.v 131), (.v 132), (.v 133), (.v 134), (.v 135), (.v 136), (.v 137), (.v 138), (.v 139), (.v 140), (.v 141), (.v 142), (.v 143), (.v 144), (.v 22), (.v 23), (.v 24), (.v 25), (.v 26), (.v 27), (.v 28), (.v 29), (.v 78)] 145 22)
   (.item (.pre (.kb true) 102 [(.v 123), (.v 124), (.v 125), (.v 126), (.v 127), (.v 128), (.v 129), (.v 130), (.v 131), (.v 132), (.v 133), (.v 134), (.v 135), (.v 136), (.v 137), (.v 138), (.v 139), (.v 140), (.v 141), (.v 142), (.v 143), (.v 144), (.v 22), (.v 23), (.v 24), (.v 25), (.v 26), (.v 27), (.v 28), (.v 29), (.v 78)])
   (.item (.bind 103 [(.v 145), (.v 146), (.v 147), (.v 148), (.v 149), (.v 150), (.v 151), (.v 152), (.v 153), (.v 154), (.v 155), (.v 156), (.v 157), (.v 158), (.v 159), (.v 160), (.v 161), (.v 162), (.v 163), (.v 164), (.v 165), (.v 166), (.v 22), (.v 23), (.v 24), (.v 25), (.v 26), (.v 27), (.v 28), (.v 29)] 167 22)
   (.item (.pre (.kb true) 103 [(.v 145), (.v 146), (.v 147), (.v 148), (.v 149), (.v 150), (.v 151), (.v 152), (.v 153), (.v 154), (.v 155), (.v 156), (.v 157), (.v 158), (.v 159), (.v 160), (.v 161), (.v 162), (.v 163), (.v 164), (.v 165), (.v 166), (.v 22), (.v 23), (.v 24), (.v 25), (.v 26), (.v 27), (.v 28), (.v 29)])
   (.leaf [(I64, (.v 167)), (I64, (.v 168)), (I64, (.v 169)), (I64, (.v 170)), (I64, (.v 171)), (I64, (.v 172)), (I64, (.v 173)), (I64, (.v 174)), (I64, (.v 175)), (I64, (.v 176)), (I64, (.v 177)), ((.sl [(.int .i64), (.int .i64)]), (.v 178)), (I64, (.v 179)), (I64, (.v 180)), (I64, (.v 181)), (I64, (.v 182)), (I64, (.v 183)), (I64, (.v 184)), (I64, (.v 185)), (I64, (.v 186)), (I64, (.v 187)), (I64, (.v 188)), (I64, (.ki (0)))])))))))))
   (.item (.bind 101 [(.v 79), (.v 80), (.v 81), (.v 82), (.v 83), (.v 84), (.v 85), (.v 86), (.v 87), (.v 88), (.v 89), (.v 90), (.v 91), (.v 92), (.v 93), (.v 94), (.v 95), (.v 96), (.v 97), (.v 98), (.v 99), (.v 100), (.v 22), (.v 23), (.v 24), (.v 25), (.v 26), (.v 27), (.v 28), (.v 29)] 189 22)
   (.item (.pre (.kb true) 101 [(.v 79), (.v 80), (.v 81), (.v 82), (.v 83), (.v 84), (.v 85), (.v 86), (.v 87), (.v 88), (.v 89), (.v 90), (.v 91), (.v 92), (.v 93), (.v 94), (.v 95), (.v 96), (.v 97), (.v 98), (.v 99), (.v 100), (.v 22), (.v 23), (.v 24), (.v 25), (.v 26), (.v 27), (.v 28), (.v 29)])
   (.item (.bind 102 [(.v 189), (.v 190), (.v 191), (.v 192), (.v 193), (.v 194), (.v 195), (.v 196), (.v 197), (.v 198), (.v 199), (.v 200), (.v 201), (.v 202), (.v 203), (.v 204), (.v 205), (.v 206), (.v 207), (.v 208), (.v 209), (.v 210), (.v 22), (.v 23), (.v 24), (.v 25), (.v 26), (.v 27), (.v 28), (.v 29), (.v 78)] 211 22)
   (.item (.pre (.kb true) 102 [(.v 189), (.v 190), (.v 191), (.v 192), (.v 193), (.v 194), (.v 195), (.v 196), (.v 197), (.v 198), (.v 199), (.v 200), (.v 201), (.v 202), (.v 203), (.v 204), (.v 205), (.v 206), (.v 207), (.v 208), (.v 209), (.v 210), (.v 22), (.v 23), (.v 24), (.v 25), (.v 26), (.v 27), (.v 28), (.v 29), (.v 78)])
   (.item (.bind 103 [(.v 211), (.v 212), (.v 213), (.v 214), (.v 215), (.v 216), (.v 217), (.v 218), (.v 219), (.v 220), (.v 221), (.v 222), (.v 223), (.v 224), (.v 225), (.v 226), (.v 227), (.v 228), (.v 229), (.v 230), (.v 231), (.v 232), (.v 22), (.v 23), (.v 24), (.v 25), (.v 26), (.v 27), (.v 28), (.v 29)] 233 22)
   (.item (.pre (.kb true) 103 [(.v 211), (.v 212), (.v 213), (.v 214), (.v 215), (.v 216), (.v 217), (.v 218), (.v 219), (.v 220), (.v 221), (.v 222), (.v 223), (.v 224), (.v 225), (.v 226), (.v 227), (.v 228), (.v 229), (.v 230), (.v 231), (.v 232), (.v 22), (.v 23), (.v 24), (.v 25), (.v 26), (.v 27), (.v 28), (.v 29)])
   (.leaf [(I64, (.v 233)), (I64, (.v 234)), (I64, (.v 235)), (I64, (.v 236)), (I64, (.v 237)), (I64, (.v 238)), (I64, (.v 239)), (I64, (.v 240)), (I64, (.v 241)), (I64, (.v 242)), (I64, (.v 243)), ((.sl [(.int .i64), (.int .i64)]), (.v 244)), (I64, (.v 245)), (I64, (.v 246)), (I64, (.v 247)), (I64, (.v 248)), (I64, (.v 249)), (I64, (.v 250)), (I64, (.v 251)), (I64, (.v 252)), (I64, (.v 253)), (I64, (.v 254)), (I64, (.ki (0)))]))))))))))))))))))))))
theorem c55 : compile Go.Proofs.Try.prog [s53, s93, s97, s98, s99, s100, s101, s102, s103] Go.Proofs.Try.f55 s55.params s55.results = some t55 := by kernel_rfl
def L55 : List (Nat × (List LV → List LV)) := [(53, F53), (93, F93), (97, FN97), (98, F98), (99, F99), (100, F100), (101, F101), (102, F102), (103, F103)]
def M55 : List (Nat × (List LV → Prop)) := [(53, R53), (93, R93), (97, RN97), (98, R98), (99, R99), (100, R100), (101, R101), (102, R102), (103, R103)]
theorem h55 : ∀ sg, sg ∈ [s53, s93, s97, s98, s99, s100, s101, s102, s103] → ConOk Go.Proofs.Try.prog (ap L55) (apR M55) sg := by
  intro sg h
  simp only [List.mem_cons, List.not_mem_nil, or_false] at h
  rcases h with rfl | rfl | rfl | rfl | rfl | rfl | rfl | rfl | rfl
  · exact k53.to rfl rfl
  · exact k93.to rfl rfl
  · exact kN97.to rfl rfl
  · exact k98.to rfl rfl
  · exact k99.to rfl rfl
  · exact k100.to rfl rfl
  · exact k101.to rfl rfl
  · exact k102.to rfl rfl
  · exact k103.to rfl rfl
set_option maxRecDepth 100000 in
theorem k55 : Kon Go.Proofs.Try.prog s55 F55 R55 := by
  refine con_ok h55 (by kernel_rfl) Go.Proofs.Try.func55 (by kernel_rfl) c55 ?_
  intro ls _ hr
  unfold R55 at hr
  unfold F55
  generalize outOf ls = s at *
  unfold t55
  refine den_call [s 0, s 1, s 2, s 3, s 4, s 5, s 6, s 7, s 8, s 9, s 10, s 11, s 12, s 13, s 14, s 15, s 16, s 17, s 18, s 19, s 20, s 21] (F53 [s 0, s 1, s 2, s 3, s 4, s 5, s 6, s 7, s 8, s 9, s 10, s 11, s 12, s 13, s 14, s 15, s 16, s 17, s 18, s 19, s 20, s 21]) (by simp only [List.map_cons, List.map_nil, E.den, O1.ev, ev_add, ev_sub, ev_mul, ev_quo, ev_rem, ev_mx, ev_mn, ev_shl, ev_shr, ev_bit, ev_lt, ev_le, ev_eq, ev_and, ev_or, ev_eqb, ev_cat, ev_rcons, ev_rd, setE_lt, setE_hit, Nat.reduceLT, Nat.reduceLeDiff, Nat.reduceAdd, Nat.reduceSub, out22', outOf_z, outOf_s]) (by simp only [L55, ap, if_true, Nat.reduceEqDiff, if_false]) (by simp only [List.map_cons, List.map_nil, E.den, O1.ev, ev_add, ev_sub, ev_mul, ev_quo, ev_rem, ev_mx, ev_mn, ev_shl, ev_shr, ev_bit, ev_lt, ev_le, ev_eq, ev_and, ev_or, ev_eqb, ev_cat, ev_rcons, ev_rd, setE_lt, setE_hit, Nat.reduceLT, Nat.reduceLeDiff, Nat.reduceAdd, Nat.reduceSub, out22', outOf_z, outOf_s]) (by simp only [M55, apR, if_true, Nat.reduceEqDiff, if_false]; exact R53_ok s (by unfold Few at hr; omega)) ?_
  by_cases hok : BbrOk s
  case neg =>
    refine den_t ?_ ?_
    · simp only [List.map_cons, List.map_nil, E.den, O1.ev, ev_add, ev_sub, ev_mul, ev_quo, ev_rem, ev_mx, ev_mn, ev_shl, ev_shr, ev_bit, ev_lt, ev_le, ev_eq, ev_and, ev_or, ev_eqb, ev_cat, ev_rcons, ev_rd, setE_lt, setE_hit, Nat.reduceLT, Nat.reduceLeDiff, Nat.reduceAdd, Nat.reduceSub, out22', outOf_z, outOf_s]
      simp only [E53, LV.Ii, LV.Bb, LV.Ll]
      rw [if_neg (fun h => hok ((bok22 s).mp h))]
      simp [tf_d]
    · simp only [Tr.den, SameL, Col.same, E.den, if_neg hok]
      simp only [E53, setE_lt, setE_hit, Nat.reduceLT, Nat.reduceLeDiff, Nat.reduceAdd, Nat.reduceSub]
      rw [if_neg (fun h => hok ((bok22 s).mp h))]
      simp only [out22, out22', out22b, out22z, out22zb, zeroF, fset, implies_true, Nat.reduceEqDiff, if_true, if_false, setE_lt, setE_hit, Nat.reduceLT, Nat.reduceLeDiff, Nat.reduceAdd, Nat.reduceSub, outOf_z, outOf_s, LV.Ii, LV.Bb, LV.Ll, and_true, and_self, true_and]
  refine den_f ?_ ?_
  · simp only [List.map_cons, List.map_nil, E.den, O1.ev, ev_add, ev_sub, ev_mul, ev_quo, ev_rem, ev_mx, ev_mn, ev_shl, ev_shr, ev_bit, ev_lt, ev_le, ev_eq, ev_and, ev_or, ev_eqb, ev_cat, ev_rcons, ev_rd, setE_lt, setE_hit, Nat.reduceLT, Nat.reduceLeDiff, Nat.reduceAdd, Nat.reduceSub, out22', outOf_z, outOf_s]
    simp only [E53, LV.Ii, LV.Bb, LV.Ll]
    rw [if_pos ((bok22 s).mpr hok)]
    simp [tf_d]
  simp only [if_pos hok]
  generalize F53 [s 0, s 1, s 2, s 3, s 4, s 5, s 6, s 7, s 8, s 9, s 10, s 11, s 12, s 13, s 14, s 15, s 16, s 17, s 18, s 19, s 20, s 21] = A
  refine Tr.den_bind [.i 1125899906842624, .l [[s 22], [s 27], [s 28], [s 24]]] (by simp only [List.map_cons, List.map_nil, E.den, O1.ev, ev_add, ev_sub, ev_mul, ev_quo, ev_rem, ev_mx, ev_mn, ev_shl, ev_shr, ev_bit, ev_lt, ev_le, ev_eq, ev_and, ev_or, ev_eqb, ev_cat, ev_rcons, ev_rd, setE_lt, setE_hit, Nat.reduceLT, Nat.reduceLeDiff, Nat.reduceAdd, Nat.reduceSub, out22', outOf_z, outOf_s]; rfl) ?_
  refine Tr.den_bind [.i 1073741824, .l [[s 23], [s 29]]] (by simp only [List.map_cons, List.map_nil, E.den, O1.ev, ev_add, ev_sub, ev_mul, ev_quo, ev_rem, ev_mx, ev_mn, ev_shl, ev_shr, ev_bit, ev_lt, ev_le, ev_eq, ev_and, ev_or, ev_eqb, ev_cat, ev_rcons, ev_rd, setE_lt, setE_hit, Nat.reduceLT, Nat.reduceLeDiff, Nat.reduceAdd, Nat.reduceSub, out22', outOf_z, outOf_s]; rfl) ?_
  refine Tr.den_pre [.i 1125899906842624, .l [[s 22], [s 27], [s 28], [s 24]]] (by simp only [List.map_cons, List.map_nil, E.den, O1.ev, ev_add, ev_sub, ev_mul, ev_quo, ev_rem, ev_mx, ev_mn, ev_shl, ev_shr, ev_bit, ev_lt, ev_le, ev_eq, ev_and, ev_or, ev_eqb, ev_cat, ev_rcons, ev_rd, setE_lt, setE_hit, Nat.reduceLT, Nat.reduceLeDiff, Nat.reduceAdd, Nat.reduceSub, out22', outOf_z, outOf_s]; rfl) (by simp only [M55, apR, if_true, Nat.reduceEqDiff, if_false]; exact R93_ok _ _ (by simp only [List.length_cons, List.length_nil]; omega)) ?_
  refine Tr.den_pre [.i 1073741824, .l [[s 23], [s 29]]] (by simp only [List.map_cons, List.map_nil, E.den, O1.ev, ev_add, ev_sub, ev_mul, ev_quo, ev_rem, ev_mx, ev_mn, ev_shl, ev_shr, ev_bit, ev_lt, ev_le, ev_eq, ev_and, ev_or, ev_eqb, ev_cat, ev_rcons, ev_rd, setE_lt, setE_hit, Nat.reduceLT, Nat.reduceLeDiff, Nat.reduceAdd, Nat.reduceSub, out22', outOf_z, outOf_s]; rfl) (by simp only [M55, apR, if_true, Nat.reduceEqDiff, if_false]; exact R93_ok _ _ (by simp only [List.length_cons, List.length_nil]; omega)) ?_
  have ec : ((E.op2 .or (.op2 .or (.op1 .not (.v 31)) (.op1 .not (.v 32))) (.op2 .lt (.v 25) (.ki (0)))).den (setE (setE (setE s 30 1 A) 31 1 (ap L55 93 [.i 1125899906842624, .l [[s 22], [s 27], [s 28], [s 24]]])) 32 1 (ap L55 93 [.i 1073741824, .l [[s 23], [s 29]]]))).B = true ↔ ¬ Samp s 22 := by
    simp only [List.map_cons, List.map_nil, E.den, O1.ev, ev_add, ev_sub, ev_mul, ev_quo, ev_rem, ev_mx, ev_mn, ev_shl, ev_shr, ev_bit, ev_lt, ev_le, ev_eq, ev_and, ev_or, ev_eqb, ev_cat, ev_rcons, ev_rd, setE_lt, setE_hit, Nat.reduceLT, Nat.reduceLeDiff, Nat.reduceAdd, Nat.reduceSub, out22', outOf_z, outOf_s]
    simp only [L55, ap, if_true, Nat.reduceEqDiff, if_false, E93, WOk_cons, WOk_nil, LV.Ii, LV.Bb, LV.Ll]
    simp only [Bool.or_eq_true, Bool.and_eq_true, Bool.not_eq_true', tf_t, tf_f, Bool.or_eq_false_iff, Bool.and_eq_false_iff, Samp, TimeI, SizeI, and_true, Nat.reduceAdd]
    omega
  by_cases hs : Samp s 22
  case neg =>
    refine den_t (ec.mpr hs) ?_
    simp only [Tr.den, SameL, Col.same, E.den, if_neg hs]
    simp only [out22, out22', out22b, out22z, out22zb, zeroF, fset, implies_true, Nat.reduceEqDiff, if_true, if_false, setE_lt, setE_hit, Nat.reduceLT, Nat.reduceLeDiff, Nat.reduceAdd, Nat.reduceSub, outOf_z, outOf_s, LV.Ii, LV.Bb, LV.Ll, and_true, and_self, true_and]
  refine den_f (fun h => ec.mp h hs) ?_
  clear ec
  simp only [if_pos hs]
  generalize ap L55 93 [.i 1125899906842624, .l [[s 22], [s 27], [s 28], [s 24]]] = B1
  generalize ap L55 93 [.i 1073741824, .l [[s 23], [s 29]]] = B2
  obtain ⟨k1, _, hl, _⟩ := a1_ok hok hs
  obtain ⟨k2, _, _⟩ := a2_ok hok hs
  obtain ⟨k3, k4, k5, k6, _⟩ := acked_ok hok hs
  unfold ackedC a4 FullP at *
  unfold a3 at *
  unfold a2 at *
  refine den_call [s 0, s 1, s 2, s 3, s 4, s 5, s 6, s 7, s 8, s 9, s 10, s 11, s 12, s 13, s 14, s 15, s 16, s 17, s 18, s 19, s 20, s 21, s 22, s 23, s 24, s 25, s 26, s 27, s 28, s 29] (.b (decide (¬ (s 28).I < (s 15).I)) :: l22 (if (s 28).I < (s 15).I then s else roundC s (s 27))) (by simp only [List.map_cons, List.map_nil, E.den, O1.ev, ev_add, ev_sub, ev_mul, ev_quo, ev_rem, ev_mx, ev_mn, ev_shl, ev_shr, ev_bit, ev_lt, ev_le, ev_eq, ev_and, ev_or, ev_eqb, ev_cat, ev_rcons, ev_rd, setE_lt, setE_hit, Nat.reduceLT, Nat.reduceLeDiff, Nat.reduceAdd, Nat.reduceSub, out22', outOf_z, outOf_s]) (by simp only [L55, ap, if_true, Nat.reduceEqDiff, if_false]; exact E97 s) (by simp only [List.map_cons, List.map_nil, E.den, O1.ev, ev_add, ev_sub, ev_mul, ev_quo, ev_rem, ev_mx, ev_mn, ev_shl, ev_shr, ev_bit, ev_lt, ev_le, ev_eq, ev_and, ev_or, ev_eqb, ev_cat, ev_rcons, ev_rd, setE_lt, setE_hit, Nat.reduceLT, Nat.reduceLeDiff, Nat.reduceAdd, Nat.reduceSub, out22', outOf_z, outOf_s]) (by simp only [M55, apR, if_true, Nat.reduceEqDiff, if_false]; exact (bok_l s s).mpr hok) ?_
  generalize (if (s 28).I < (s 15).I then s else roundC s (s 27)) = g1 at *
  refine den_call [g1 0, g1 1, g1 2, g1 3, g1 4, g1 5, g1 6, g1 7, g1 8, g1 9, g1 10, g1 11, g1 12, g1 13, g1 14, g1 15, g1 16, g1 17, g1 18, g1 19, g1 20, g1 21, s 22, s 23, s 24, s 25, s 26, s 27, s 28, s 29] (l22 (speedC g1 (s 25).I (s 26).B)) (by simp only [List.map_cons, List.map_nil, E.den, O1.ev, ev_add, ev_sub, ev_mul, ev_quo, ev_rem, ev_mx, ev_mn, ev_shl, ev_shr, ev_bit, ev_lt, ev_le, ev_eq, ev_and, ev_or, ev_eqb, ev_cat, ev_rcons, ev_rd, setE_lt, setE_hit, Nat.reduceLT, Nat.reduceLeDiff, Nat.reduceAdd, Nat.reduceSub, out22', outOf_z, outOf_s]) (by simp only [L55, ap, if_true, Nat.reduceEqDiff, if_false]; exact E98 g1 s) (by simp only [List.map_cons, List.map_nil, E.den, O1.ev, ev_add, ev_sub, ev_mul, ev_quo, ev_rem, ev_mx, ev_mn, ev_shl, ev_shr, ev_bit, ev_lt, ev_le, ev_eq, ev_and, ev_or, ev_eqb, ev_cat, ev_rcons, ev_rd, setE_lt, setE_hit, Nat.reduceLT, Nat.reduceLeDiff, Nat.reduceAdd, Nat.reduceSub, out22', outOf_z, outOf_s]) (by simp only [M55, apR, if_true, Nat.reduceEqDiff, if_false]; exact ⟨(bok_l g1 s).mpr k1, hs.2.2.2.1, by unfold Few at *; show (g1 11).L.length ≤ _; rw [hl]; exact hr⟩) ?_
  generalize speedC g1 (s 25).I (s 26).B = g2 at *
  refine den_call [g2 0, g2 1, g2 2, g2 3, g2 4, g2 5, g2 6, g2 7, g2 8, g2 9, g2 10, g2 11, g2 12, g2 13, g2 14, g2 15, g2 16, g2 17, g2 18, g2 19, g2 20, g2 21, s 22, s 23, s 24, s 25, s 26, s 27, s 28, s 29] (.b (decide (Late g2 (s 22).I)) :: l22 (shortC g2 (s 22) (s 24))) (by simp only [List.map_cons, List.map_nil, E.den, O1.ev, ev_add, ev_sub, ev_mul, ev_quo, ev_rem, ev_mx, ev_mn, ev_shl, ev_shr, ev_bit, ev_lt, ev_le, ev_eq, ev_and, ev_or, ev_eqb, ev_cat, ev_rcons, ev_rd, setE_lt, setE_hit, Nat.reduceLT, Nat.reduceLeDiff, Nat.reduceAdd, Nat.reduceSub, out22', outOf_z, outOf_s]) (by simp only [L55, ap, if_true, Nat.reduceEqDiff, if_false]; exact E99 g2 s) (by simp only [List.map_cons, List.map_nil, E.den, O1.ev, ev_add, ev_sub, ev_mul, ev_quo, ev_rem, ev_mx, ev_mn, ev_shl, ev_shr, ev_bit, ev_lt, ev_le, ev_eq, ev_and, ev_or, ev_eqb, ev_cat, ev_rcons, ev_rd, setE_lt, setE_hit, Nat.reduceLT, Nat.reduceLeDiff, Nat.reduceAdd, Nat.reduceSub, out22', outOf_z, outOf_s]) (by simp only [M55, apR, if_true, Nat.reduceEqDiff, if_false]; exact ⟨(bok_l g2 s).mpr k2, (samp_l g2 s).mpr hs⟩) ?_
  generalize decide (Late g2 (s 22).I) = lt at *
  generalize shortC g2 (s 22) (s 24) = g3 at *
  by_cases hf : ¬ (s 28).I < (s 15).I ∧ (g3 10).I = 1 ∧ ¬ (s 26).B = true
  · simp only [if_pos hf] at *
    refine den_t ?_ ?_
    · simp only [List.map_cons, List.map_nil, E.den, O1.ev, ev_add, ev_sub, ev_mul, ev_quo, ev_rem, ev_mx, ev_mn, ev_shl, ev_shr, ev_bit, ev_lt, ev_le, ev_eq, ev_and, ev_or, ev_eqb, ev_cat, ev_rcons, ev_rd, setE_lt, setE_hit, Nat.reduceLT, Nat.reduceLeDiff, Nat.reduceAdd, Nat.reduceSub, out22', outOf_z, outOf_s]
      simp only [LV.Ii, LV.Bb, LV.Ll]
      simp only [Bool.or_eq_true, Bool.and_eq_true, Bool.not_eq_true', tf_t, tf_f, Bool.or_eq_false_iff, Bool.and_eq_false_iff, decide_eq_true_eq]
      exact ⟨⟨hf.1, hf.2.1⟩, by simpa using hf.2.2⟩
    refine den_call [g3 0, g3 1, g3 2, g3 3, g3 4, g3 5, g3 6, g3 7, g3 8, g3 9, g3 10, g3 11, g3 12, g3 13, g3 14, g3 15, g3 16, g3 17, g3 18, g3 19, g3 20, g3 21] (l22 (fullC g3)) (by simp only [List.map_cons, List.map_nil, E.den, O1.ev, ev_add, ev_sub, ev_mul, ev_quo, ev_rem, ev_mx, ev_mn, ev_shl, ev_shr, ev_bit, ev_lt, ev_le, ev_eq, ev_and, ev_or, ev_eqb, ev_cat, ev_rcons, ev_rd, setE_lt, setE_hit, Nat.reduceLT, Nat.reduceLeDiff, Nat.reduceAdd, Nat.reduceSub, out22', outOf_z, outOf_s]) (by simp only [L55, ap, if_true, Nat.reduceEqDiff, if_false]; exact E100 g3) (by simp only [List.map_cons, List.map_nil, E.den, O1.ev, ev_add, ev_sub, ev_mul, ev_quo, ev_rem, ev_mx, ev_mn, ev_shl, ev_shr, ev_bit, ev_lt, ev_le, ev_eq, ev_and, ev_or, ev_eqb, ev_cat, ev_rcons, ev_rd, setE_lt, setE_hit, Nat.reduceLT, Nat.reduceLeDiff, Nat.reduceAdd, Nat.reduceSub, out22', outOf_z, outOf_s]) (by simp only [M55, apR, if_true, Nat.reduceEqDiff, if_false]; exact (bok22 g3).mpr k3) ?_
    generalize fullC g3 = g4 at *
    refine den_call [g4 0, g4 1, g4 2, g4 3, g4 4, g4 5, g4 6, g4 7, g4 8, g4 9, g4 10, g4 11, g4 12, g4 13, g4 14, g4 15, g4 16, g4 17, g4 18, g4 19, g4 20, g4 21, s 22, s 23, s 24, s 25, s 26, s 27, s 28, s 29] (l22 (cycleC g4 (s 22) (s 29).I)) (by simp only [List.map_cons, List.map_nil, E.den, O1.ev, ev_add, ev_sub, ev_mul, ev_quo, ev_rem, ev_mx, ev_mn, ev_shl, ev_shr, ev_bit, ev_lt, ev_le, ev_eq, ev_and, ev_or, ev_eqb, ev_cat, ev_rcons, ev_rd, setE_lt, setE_hit, Nat.reduceLT, Nat.reduceLeDiff, Nat.reduceAdd, Nat.reduceSub, out22', outOf_z, outOf_s]) (by simp only [L55, ap, if_true, Nat.reduceEqDiff, if_false]; exact E101 g4 s) (by simp only [List.map_cons, List.map_nil, E.den, O1.ev, ev_add, ev_sub, ev_mul, ev_quo, ev_rem, ev_mx, ev_mn, ev_shl, ev_shr, ev_bit, ev_lt, ev_le, ev_eq, ev_and, ev_or, ev_eqb, ev_cat, ev_rcons, ev_rd, setE_lt, setE_hit, Nat.reduceLT, Nat.reduceLeDiff, Nat.reduceAdd, Nat.reduceSub, out22', outOf_z, outOf_s]) (by simp only [M55, apR, if_true, Nat.reduceEqDiff, if_false]; exact ⟨(bok_l g4 s).mpr k4, (samp_l g4 s).mpr hs⟩) ?_
    generalize cycleC g4 (s 22) (s 29).I = g5 at *
    refine den_call [g5 0, g5 1, g5 2, g5 3, g5 4, g5 5, g5 6, g5 7, g5 8, g5 9, g5 10, g5 11, g5 12, g5 13, g5 14, g5 15, g5 16, g5 17, g5 18, g5 19, g5 20, g5 21, s 22, s 23, s 24, s 25, s 26, s 27, s 28, s 29, .b lt] (l22 (askC g5 (s 22) (s 29).I lt)) (by simp only [List.map_cons, List.map_nil, E.den, O1.ev, ev_add, ev_sub, ev_mul, ev_quo, ev_rem, ev_mx, ev_mn, ev_shl, ev_shr, ev_bit, ev_lt, ev_le, ev_eq, ev_and, ev_or, ev_eqb, ev_cat, ev_rcons, ev_rd, setE_lt, setE_hit, Nat.reduceLT, Nat.reduceLeDiff, Nat.reduceAdd, Nat.reduceSub, out22', outOf_z, outOf_s]) (by simp only [L55, ap, if_true, Nat.reduceEqDiff, if_false]; exact E102 g5 s lt) (by simp only [List.map_cons, List.map_nil, E.den, O1.ev, ev_add, ev_sub, ev_mul, ev_quo, ev_rem, ev_mx, ev_mn, ev_shl, ev_shr, ev_bit, ev_lt, ev_le, ev_eq, ev_and, ev_or, ev_eqb, ev_cat, ev_rcons, ev_rd, setE_lt, setE_hit, Nat.reduceLT, Nat.reduceLeDiff, Nat.reduceAdd, Nat.reduceSub, out22', outOf_z, outOf_s]) (by simp only [M55, apR, if_true, Nat.reduceEqDiff, if_false]; exact ⟨(bok_l' g5 s _).mpr k5, (samp_l' g5 s _).mpr hs⟩) ?_
    generalize askC g5 (s 22) (s 29).I lt = g6 at *
    refine den_call [g6 0, g6 1, g6 2, g6 3, g6 4, g6 5, g6 6, g6 7, g6 8, g6 9, g6 10, g6 11, g6 12, g6 13, g6 14, g6 15, g6 16, g6 17, g6 18, g6 19, g6 20, g6 21, s 22, s 23, s 24, s 25, s 26, s 27, s 28, s 29] (l22 (windowC g6 (s 23).I)) (by simp only [List.map_cons, List.map_nil, E.den, O1.ev, ev_add, ev_sub, ev_mul, ev_quo, ev_rem, ev_mx, ev_mn, ev_shl, ev_shr, ev_bit, ev_lt, ev_le, ev_eq, ev_and, ev_or, ev_eqb, ev_cat, ev_rcons, ev_rd, setE_lt, setE_hit, Nat.reduceLT, Nat.reduceLeDiff, Nat.reduceAdd, Nat.reduceSub, out22', outOf_z, outOf_s]) (by simp only [L55, ap, if_true, Nat.reduceEqDiff, if_false]; exact E103 g6 s) (by simp only [List.map_cons, List.map_nil, E.den, O1.ev, ev_add, ev_sub, ev_mul, ev_quo, ev_rem, ev_mx, ev_mn, ev_shl, ev_shr, ev_bit, ev_lt, ev_le, ev_eq, ev_and, ev_or, ev_eqb, ev_cat, ev_rcons, ev_rd, setE_lt, setE_hit, Nat.reduceLT, Nat.reduceLeDiff, Nat.reduceAdd, Nat.reduceSub, out22', outOf_z, outOf_s]) (by simp only [M55, apR, if_true, Nat.reduceEqDiff, if_false]; exact ⟨(bok_l g6 s).mpr k6, (samp_l g6 s).mpr hs⟩) ?_
    generalize windowC g6 (s 23).I = g7 at *
    simp only [Tr.den, SameL, Col.same, E.den]
    simp only [out22, out22', out22b, out22z, out22zb, zeroF, fset, implies_true, Nat.reduceEqDiff, if_true, if_false, setE_lt, setE_hit, Nat.reduceLT, Nat.reduceLeDiff, Nat.reduceAdd, Nat.reduceSub, outOf_z, outOf_s, LV.Ii, LV.Bb, LV.Ll, and_true, and_self, true_and]

  · simp only [if_neg hf] at *
    refine den_f ?_ ?_
    · simp only [List.map_cons, List.map_nil, E.den, O1.ev, ev_add, ev_sub, ev_mul, ev_quo, ev_rem, ev_mx, ev_mn, ev_shl, ev_shr, ev_bit, ev_lt, ev_le, ev_eq, ev_and, ev_or, ev_eqb, ev_cat, ev_rcons, ev_rd, setE_lt, setE_hit, Nat.reduceLT, Nat.reduceLeDiff, Nat.reduceAdd, Nat.reduceSub, out22', outOf_z, outOf_s]
      simp only [LV.Ii, LV.Bb, LV.Ll]
      simp only [Bool.or_eq_true, Bool.and_eq_true, Bool.not_eq_true', tf_t, tf_f, Bool.or_eq_false_iff, Bool.and_eq_false_iff, decide_eq_true_eq]
      rintro ⟨⟨q1, q2⟩, q3⟩
      exact hf ⟨q1, q2, by simpa using q3⟩
    refine den_call [g3 0, g3 1, g3 2, g3 3, g3 4, g3 5, g3 6, g3 7, g3 8, g3 9, g3 10, g3 11, g3 12, g3 13, g3 14, g3 15, g3 16, g3 17, g3 18, g3 19, g3 20, g3 21, s 22, s 23, s 24, s 25, s 26, s 27, s 28, s 29] (l22 (cycleC g3 (s 22) (s 29).I)) (by simp only [List.map_cons, List.map_nil, E.den, O1.ev, ev_add, ev_sub, ev_mul, ev_quo, ev_rem, ev_mx, ev_mn, ev_shl, ev_shr, ev_bit, ev_lt, ev_le, ev_eq, ev_and, ev_or, ev_eqb, ev_cat, ev_rcons, ev_rd, setE_lt, setE_hit, Nat.reduceLT, Nat.reduceLeDiff, Nat.reduceAdd, Nat.reduceSub, out22', outOf_z, outOf_s]) (by simp only [L55, ap, if_true, Nat.reduceEqDiff, if_false]; exact E101 g3 s) (by simp only [List.map_cons, List.map_nil, E.den, O1.ev, ev_add, ev_sub, ev_mul, ev_quo, ev_rem, ev_mx, ev_mn, ev_shl, ev_shr, ev_bit, ev_lt, ev_le, ev_eq, ev_and, ev_or, ev_eqb, ev_cat, ev_rcons, ev_rd, setE_lt, setE_hit, Nat.reduceLT, Nat.reduceLeDiff, Nat.reduceAdd, Nat.reduceSub, out22', outOf_z, outOf_s]) (by simp only [M55, apR, if_true, Nat.reduceEqDiff, if_false]; exact ⟨(bok_l g3 s).mpr k3, (samp_l g3 s).mpr hs⟩) ?_
    generalize cycleC g3 (s 22) (s 29).I = g5 at *
    refine den_call [g5 0, g5 1, g5 2, g5 3, g5 4, g5 5, g5 6, g5 7, g5 8, g5 9, g5 10, g5 11, g5 12, g5 13, g5 14, g5 15, g5 16, g5 17, g5 18, g5 19, g5 20, g5 21, s 22, s 23, s 24, s 25, s 26, s 27, s 28, s 29, .b lt] (l22 (askC g5 (s 22) (s 29).I lt)) (by simp only [List.map_cons, List.map_nil, E.den, O1.ev, ev_add, ev_sub, ev_mul, ev_quo, ev_rem, ev_mx, ev_mn, ev_shl, ev_shr, ev_bit, ev_lt, ev_le, ev_eq, ev_and, ev_or, ev_eqb, ev_cat, ev_rcons, ev_rd, setE_lt, setE_hit, Nat.reduceLT, Nat.reduceLeDiff, Nat.reduceAdd, Nat.reduceSub, out22', outOf_z, outOf_s]) (by simp only [L55, ap, if_true, Nat.reduceEqDiff, if_false]; exact E102 g5 s lt) (by simp only [List.map_cons, List.map_nil, E.den, O1.ev, ev_add, ev_sub, ev_mul, ev_quo, ev_rem, ev_mx, ev_mn, ev_shl, ev_shr, ev_bit, ev_lt, ev_le, ev_eq, ev_and, ev_or, ev_eqb, ev_cat, ev_rcons, ev_rd, setE_lt, setE_hit, Nat.reduceLT, Nat.reduceLeDiff, Nat.reduceAdd, Nat.reduceSub, out22', outOf_z, outOf_s]) (by simp only [M55, apR, if_true, Nat.reduceEqDiff, if_false]; exact ⟨(bok_l' g5 s _).mpr k5, (samp_l' g5 s _).mpr hs⟩) ?_
    generalize askC g5 (s 22) (s 29).I lt = g6 at *
    refine den_call [g6 0, g6 1, g6 2, g6 3, g6 4, g6 5, g6 6, g6 7, g6 8, g6 9, g6 10, g6 11, g6 12, g6 13, g6 14, g6 15, g6 16, g6 17, g6 18, g6 19, g6 20, g6 21, s 22, s 23, s 24, s 25, s 26, s 27, s 28, s 29] (l22 (windowC g6 (s 23).I)) (by simp only [List.map_cons, List.map_nil, E.den, O1.ev, ev_add, ev_sub, ev_mul, ev_quo, ev_rem, ev_mx, ev_mn, ev_shl, ev_shr, ev_bit, ev_lt, ev_le, ev_eq, ev_and, ev_or, ev_eqb, ev_cat, ev_rcons, ev_rd, setE_lt, setE_hit, Nat.reduceLT, Nat.reduceLeDiff, Nat.reduceAdd, Nat.reduceSub, out22', outOf_z, outOf_s]) (by simp only [L55, ap, if_true, Nat.reduceEqDiff, if_false]; exact E103 g6 s) (by simp only [List.map_cons, List.map_nil, E.den, O1.ev, ev_add, ev_sub, ev_mul, ev_quo, ev_rem, ev_mx, ev_mn, ev_shl, ev_shr, ev_bit, ev_lt, ev_le, ev_eq, ev_and, ev_or, ev_eqb, ev_cat, ev_rcons, ev_rd, setE_lt, setE_hit, Nat.reduceLT, Nat.reduceLeDiff, Nat.reduceAdd, Nat.reduceSub, out22', outOf_z, outOf_s]) (by simp only [M55, apR, if_true, Nat.reduceEqDiff, if_false]; exact ⟨(bok_l g6 s).mpr k6, (samp_l g6 s).mpr hs⟩) ?_
    generalize windowC g6 (s 23).I = g7 at *
    simp only [Tr.den, SameL, Col.same, E.den]
    simp only [out22, out22', out22b, out22z, out22zb, zeroF, fset, implies_true, Nat.reduceEqDiff, if_true, if_false, setE_lt, setE_hit, Nat.reduceLT, Nat.reduceLeDiff, Nat.reduceAdd, Nat.reduceSub, outOf_z, outOf_s, LV.Ii, LV.Bb, LV.Ll, and_true, and_self, true_and]

end Go.Proofs.Ythhnnfmfeofknaa.Sy
