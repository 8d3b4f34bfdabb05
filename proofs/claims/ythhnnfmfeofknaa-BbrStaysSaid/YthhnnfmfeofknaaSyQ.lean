/-
  A symbolic evaluator for the model's code, part Q: a function's contract from the tree of its body.
-/
import Derived.Test.YthhnnfmfeofknaaSyP
namespace Go.Proofs.Ythhnnfmfeofknaa.Sy
open Go Go.RowKit
set_option linter.unusedSimpArgs false
set_option linter.unusedVariables false

def initS : Nat → Nat → Nat → List PSh → St
  | _, _, _, [] => []
  | t, b, k, .col c :: ps => ((0, t), some (.one (.cell (.ex c (.v k))))) :: initS (t + 1) b (k + 1) ps
  | t, b, k, .agg cs :: ps => ((0, t), some (.one (.agg (exs k cs)))) :: initS (t + 1) b (k + cs.length) ps
  | t, b, k, .ptr _ cs :: ps => ((0, t), some (.one (.cell (.ptr b 0)))) :: ((1, b), some (mark cs.length)) :: (wsOf b 0 (exs k cs) ++ initS (t + 1) (b + 1) (k + cs.length) ps)
  | t, b, k, .fn f :: ps => ((0, t), some (.one (.cell (.fn f)))) :: initS (t + 1) b k ps
def npOf : List PSh → Nat
  | [] => 0
  | .ptr _ _ :: ps => npOf ps + 1
  | _ :: ps => npOf ps
def roOf : Nat → List PSh → List Nat
  | _, [] => []
  | b, .ptr false _ :: ps => b :: roOf (b + 1) ps
  | b, .ptr true _ :: ps => roOf (b + 1) ps
  | b, _ :: ps => roOf b ps
def lenOf : List PSh → Nat
  | [] => 0
  | .col _ :: ps => lenOf ps + 1
  | .agg cs :: ps => lenOf ps + cs.length
  | .ptr _ cs :: ps => lenOf ps + cs.length
  | .fn _ :: ps => lenOf ps
def Col.same : Col → LV → LV → Prop
  | .base (.int _), x, y => x.I = y.I
  | .base .bool, x, y => x.B = y.B
  | .base .opq, x, y => x.O = y.O
  | .sl _, x, y => x.L = y.L
/-- The expressions of an end say what f says. -/
def SameL (ρ : Env) (f : Nat → LV) : Nat → List (Col × E) → Prop
  | _, [] => True
  | n, (c, e) :: r => c.same (e.den ρ) (f n) ∧ SameL ρ f (n + 1) r
def withC : List Col → List E → List (Col × E)
  | c :: cs, e :: es => (c, e) :: withC cs es
  | _, _ => []
def resE : List RSh → List V1 → Option (List (Col × E))
  | [], [] => some []
  | .col c :: rs, .cell x :: xs => (cellE c x).bind fun e => (resE rs xs).map fun es => (c, e) :: es
  | .agg cs :: rs, .agg ys :: xs => (cellsE cs ys).bind fun es1 => (resE rs xs).map fun es => withC cs es1 ++ es
  | _, _ => none
def resVal (P : Program) (S : Sm) : ResultVar → Option V1
  | .tmp t => match S (0, t) with
    | some (.one x) => some x
    | _ => none
  | .cell a t => match S (0, a) with
    | some (.one (.cell (.ptr b o))) => (match mLoad P t o (S (1, b)) ((locs b o (P.cellsOf t)).map S) with
      | some (.one x) => some x
      | _ => none)
    | _ => none
def resVals (P : Program) (S : Sm) : List ResultVar → Option (List V1)
  | [] => some []
  | r :: rs => (resVal P S r).bind fun x => (resVals P S rs).map fun xs => x :: xs
def isMark (n : Nat) : Option V2 → Bool
  | some (.one (.cell (.fn m))) => decide (m = n)
  | _ => false
def outE (S : Sm) : Nat → List PSh → Option (List (Col × E))
  | _, [] => some []
  | b, .ptr true cs :: ps => if isMark cs.length (S (1, b)) = true then ((cvsOf ((locs b 0 cs.length).map S)).bind fun ys => cellsE cs ys).bind fun es => (outE S (b + 1) ps).map fun xs => withC cs es ++ xs else none
  | b, .ptr false _ :: ps => outE S (b + 1) ps
  | b, _ :: ps => outE S b ps
def finS (P : Program) (rs : List RSh) (ps : List PSh) (rvs : List ResultVar) (S : Sm) : Option (List (Col × E)) :=
  ((resVals P S rvs).bind fun xs => resE rs xs).bind fun es => (outE S 0 ps).map fun os => es ++ os
def finL (P : Program) (rs : List RSh) (ps : List PSh) (rvs : List ResultVar) (S0 : St) (l : Lf) (s n : Nat) : Option (Tr (List (Col × E)) × Nat × Nat) :=
  if l.ex = .normal ∨ l.ex = .ret then (finS P rs ps rvs (l.u ++ S0).get).map fun xs => (.leaf xs, s, n) else none
def compile (P : Program) (sigs : List Sig) (fn : Func) (ps : List PSh) (rs : List RSh) : Option (Tr (List (Col × E))) :=
  if ps.length ≤ fn.ntmps then
    fn.body.bind fun c => (exec ⟨P, sigs, npOf ps, roOf 0 ps⟩ fn.ntmps c (initS 0 0 0 ps) 0 (npOf ps) (lenOf ps)).bind fun q =>
      (bindT (finL P rs ps fn.results.toList (initS 0 0 0 ps)) q.1 0 0).map (·.1)
  else none

section
variable {P : Program} {w : World} {Tr : Nat → Prop}

theorem Col.same_rep {c : Col} {x y : LV} {v : Value} (h : c.same x y) (hr : c.rep w Tr x v) : c.rep w Tr y v := by
  cases c with
  | base c => cases c <;> simp only [Col.same] at h <;> simp only [Col.rep, BC.rep] at hr ⊢ <;> rw [← h] <;> exact hr
  | sl cs => simp only [Col.same] at h; simp only [Col.rep] at hr ⊢; rw [← h]; exact hr
theorem CRep.exs {β : Blk} {ρ : Env} (hav : ∀ i, β.avoid i → Tr i) : ∀ {cs : List Col} {ls : List LV} {us : List Value} {k : Nat}, CRep w Tr cs ls us → (∀ i, i < ls.length → ρ (k + i) = outOf ls i) → ls.length = cs.length ∧ All2 (CV.rep ρ β w) (exs k cs) us := by
  intro cs
  induction cs with
  | nil => intro ls us k h _; cases ls <;> cases us <;> first | exact ⟨rfl, .nil⟩ | exact h.elim
  | cons c cs ih =>
    intro ls us k h hf
    cases ls with
    | nil => cases us <;> exact h.elim
    | cons l ls =>
      cases us with
      | nil => exact h.elim
      | cons u us =>
        obtain ⟨g1, g2⟩ := ih (k := k + 1) h.2 (fun i hi => by
          have := hf (i + 1) (by simp; omega)
          rw [show k + 1 + i = k + (i + 1) by omega, this]
          simp [outOf])
        refine ⟨by simp [g1], .cons ?_ g2⟩
        have h0 := hf 0 (by simp)
        simp only [CV.rep, E.den]
        rw [show k = k + 0 by omega, h0]
        simp only [outOf, List.getD_cons_zero]
        exact Col.lasts h.1 (Nat.le_refl _) (fun _ _ _ => rfl) (fun i _ hn ha => hn (hav i ha))
theorem CAt.exs {β : Blk} {ρ : Env} {g : Nat} (hav : ∀ i, β.avoid i → Tr i) : ∀ {cs : List Col} {ls : List LV} {j k : Nat}, CAt w Tr g j cs ls → (∀ i, i < ls.length → ρ (k + i) = outOf ls i) →
    ls.length = cs.length ∧ ∀ (i : Nat) (c : CV), (exs k cs)[i]? = some c → CellOk ρ β w g (j + i) (.one (.cell c)) := by
  intro cs
  induction cs with
  | nil => intro ls j k h _; cases ls <;> first | exact ⟨rfl, fun i c h => by simp [Sy.exs] at h⟩ | exact h.elim
  | cons c cs ih =>
    intro ls j k h hf
    cases ls with
    | nil => exact h.elim
    | cons l ls =>
      obtain ⟨⟨u, h1, h2, h3⟩, h4⟩ := h
      obtain ⟨g1, g2⟩ := ih (k := k + 1) h4 (fun i hi => by
        have := hf (i + 1) (by simp; omega)
        rw [show k + 1 + i = k + (i + 1) by omega, this]
        simp [outOf])
      refine ⟨by simp [g1], fun i x hx => ?_⟩
      cases i with
      | zero =>
        simp only [Sy.exs, List.getElem?_cons_zero, Option.some.injEq] at hx
        subst hx
        refine ⟨_, u, rfl, h1, ?_, h3⟩
        have h0 := hf 0 (by simp)
        simp only [CV.rep, E.den]
        rw [show k = k + 0 by omega, h0]
        simp only [outOf, List.getD_cons_zero]
        exact Col.lasts h2 (Nat.le_refl _) (fun _ _ _ => rfl) (fun i _ hn ha => hn (hav i ha))
      | succ i =>
        have := g2 i x (by simpa [Sy.exs] using hx)
        rwa [show j + 1 + i = j + (i + 1) by omega] at this
/-- What the state at the start says, place by place. -/
theorem init_look {ρ : Env} {β : Blk} (hav : ∀ i, β.avoid i → Tr i) : ∀ {ps : List PSh} {ls : List LV} {bs : List Nat} {vs : List Value} {t b k : Nat}, PRep w Tr ps ls bs vs → (∀ i, i < ls.length → ρ (k + i) = outOf ls i) →
    (∀ j g, bs[j]? = some g → β.at_ (b + j) = g ∧ β.live (b + j)) → bs.length = npOf ps ∧ vs.length = ps.length ∧ ∀ l y, look (initS t b k ps) l = some y → ∃ x, y = some x ∧
      ((l.1 = 0 ∧ ∃ j v, l.2 = t + j ∧ vs[j]? = some v ∧ x.rep ρ β w v) ∨ (l.1 = 1 ∧ ∃ j g, l.2 = b + j ∧ bs[j]? = some g ∧ g < w.heap.size) ∨ (∃ j g, l.1 = b + j + 2 ∧ bs[j]? = some g ∧ CellOk ρ β w g l.2 x)) := by
  intro ps
  induction ps with
  | nil =>
    intro ls bs vs t b k h hf hb
    obtain ⟨rfl, rfl, rfl⟩ := h
    exact ⟨rfl, rfl, fun l y h => by simp [initS, look] at h⟩
  | cons q ps ih =>
    intro ls bs vs t b k h hf hb
    have tail : ∀ {ls1 ls' : List LV} {vs' : List Value}, ls = ls1 ++ ls' → ∀ i, i < ls'.length → ρ (k + ls1.length + i) = outOf ls' i := by
      intro ls1 ls' vs' he i hi
      subst he
      rw [Nat.add_assoc, hf _ (by simp; omega)]
      rw [outOf, outOf, List.getD_eq_getElem?_getD, List.getElem?_append_right (by omega), Nat.add_sub_cancel_left, ← List.getD_eq_getElem?_getD]
    have shift : ∀ {bs' : List Nat} {vs' : List Value} {k' : Nat} {l : Loc} {y : Option V2} {v0 : Value}, (∀ l y, look (initS (t + 1) b k' ps) l = some y → ∃ x, y = some x ∧
      ((l.1 = 0 ∧ ∃ j v, l.2 = t + 1 + j ∧ vs'[j]? = some v ∧ x.rep ρ β w v) ∨ (l.1 = 1 ∧ ∃ j g, l.2 = b + j ∧ bs'[j]? = some g ∧ g < w.heap.size) ∨ (∃ j g, l.1 = b + j + 2 ∧ bs'[j]? = some g ∧ CellOk ρ β w g l.2 x))) →
      look (initS (t + 1) b k' ps) l = some y → ∃ x, y = some x ∧
      ((l.1 = 0 ∧ ∃ j v, l.2 = t + j ∧ (v0 :: vs')[j]? = some v ∧ x.rep ρ β w v) ∨ (l.1 = 1 ∧ ∃ j g, l.2 = b + j ∧ bs'[j]? = some g ∧ g < w.heap.size) ∨ (∃ j g, l.1 = b + j + 2 ∧ bs'[j]? = some g ∧ CellOk ρ β w g l.2 x)) := by
      intro bs' vs' k' l y v0 hi hl
      obtain ⟨x, rfl, hx⟩ := hi l y hl
      refine ⟨x, rfl, ?_⟩
      rcases hx with ⟨h1, j, v, h2, h3, h4⟩ | h | h
      · exact .inl ⟨h1, j + 1, v, by omega, by simpa using h3, h4⟩
      · exact .inr (.inl h)
      · exact .inr (.inr h)
    cases q with
    | col c =>
      obtain ⟨l0, ls', v, vs', rfl, rfl, hc, hp⟩ := h
      obtain ⟨i1, i2, i3⟩ := ih (t := t + 1) (b := b) (k := k + 1) hp (tail (ls1 := [l0]) (vs' := vs') rfl) hb
      refine ⟨i1, by simp [i2], fun l y hl => ?_⟩
      simp only [initS, look] at hl
      split at hl
      · rename_i hk
        simp only [Option.some.injEq] at hl
        refine ⟨_, hl.symm, .inl ⟨hk.1.symm, 0, v, hk.2.symm, rfl, ?_⟩⟩
        have h0 := hf 0 (by simp)
        simp only [Nat.add_zero, outOf, List.getD_cons_zero] at h0
        simp only [V2.rep, V1.rep, CV.rep, E.den, h0]
        exact Col.lasts hc (Nat.le_refl _) (fun _ _ _ => rfl) (fun i _ hn ha => hn (hav i ha))
      · exact shift i3 hl
    | agg cs =>
      obtain ⟨l1, ls', us, vs', rfl, rfl, hc, hp⟩ := h
      obtain ⟨e1, e2⟩ := CRep.exs (β := β) (ρ := ρ) (k := k) hav hc (fun i hi => by rw [hf i (by simp; omega)]; simp [outOf, List.getD_eq_getElem?_getD, List.getElem?_append, hi])
      have htl := tail (ls1 := l1) (vs' := vs') rfl
      rw [e1] at htl
      obtain ⟨i1, i2, i3⟩ := ih (t := t + 1) (b := b) (k := k + cs.length) hp htl hb
      refine ⟨i1, by simp [i2], fun l y hl => ?_⟩
      simp only [initS, look] at hl
      split at hl
      · rename_i hk
        simp only [Option.some.injEq] at hl
        exact ⟨_, hl.symm, .inl ⟨hk.1.symm, 0, _, hk.2.symm, rfl, us, rfl, e2⟩⟩
      · exact shift i3 hl
    | fn f =>
      obtain ⟨vs', rfl, hp⟩ := h
      obtain ⟨i1, i2, i3⟩ := ih (t := t + 1) (b := b) (k := k) hp hf hb
      refine ⟨i1, by simp [i2], fun l y hl => ?_⟩
      simp only [initS, look] at hl
      split at hl
      · rename_i hk
        simp only [Option.some.injEq] at hl
        exact ⟨_, hl.symm, .inl ⟨hk.1.symm, 0, _, hk.2.symm, rfl, rfl⟩⟩
      · exact shift i3 hl
    | ptr mt cs =>
      obtain ⟨l1, ls', g, bs', vs', rfl, rfl, rfl, hg, hc, hp⟩ := h
      obtain ⟨e1, e2⟩ := CAt.exs (β := β) (ρ := ρ) (k := k) hav hc (fun i hi => by rw [hf i (by simp; omega)]; simp [outOf, List.getD_eq_getElem?_getD, List.getElem?_append, hi])
      have htl := tail (ls1 := l1) (vs' := vs') rfl
      rw [e1] at htl
      obtain ⟨i1, i2, i3⟩ := ih (t := t + 1) (b := b + 1) (k := k + cs.length) hp htl (fun j g' hj => by
        have := hb (j + 1) g' (by simpa using hj)
        rwa [show b + (j + 1) = b + 1 + j by omega] at this)
      refine ⟨by simp [i1, npOf], by simp [i2], fun l y hl => ?_⟩
      simp only [initS, look] at hl
      obtain ⟨hbat, hblive⟩ := hb 0 g rfl
      split at hl
      · rename_i hk
        simp only [Option.some.injEq] at hl
        refine ⟨_, hl.symm, .inl ⟨hk.1.symm, 0, _, hk.2.symm, rfl, ?_⟩⟩
        exact ⟨hblive, by rw [show β.at_ b = g from hbat]⟩
      · split at hl
        · rename_i hk
          simp only [Option.some.injEq] at hl
          exact ⟨_, hl.symm, .inr (.inl ⟨hk.1.symm, 0, g, hk.2.symm, rfl, hg⟩)⟩
        · rw [look_append] at hl
          cases hw : look (wsOf b 0 (Sy.exs k cs)) l with
          | some z =>
            rw [hw, Option.some_or] at hl
            simp only [Option.some.injEq] at hl
            subst hl
            rw [look_wsOf] at hw
            split at hw
            · rename_i hcc
              simp only [Nat.sub_zero, Option.map_eq_some_iff] at hw
              obtain ⟨c, hc', rfl⟩ := hw
              have := e2 _ c hc'
              rw [Nat.zero_add] at this
              exact ⟨_, rfl, .inr (.inr ⟨0, g, hcc.1, rfl, this⟩)⟩
            · simp at hw
          | none =>
            rw [hw, Option.none_or] at hl
            obtain ⟨x, rfl, hx⟩ := i3 l y hl
            refine ⟨x, rfl, ?_⟩
            rcases hx with ⟨h1, j, v, h2, h3, h4⟩ | ⟨h1, j, g', h2, h3, h4⟩ | ⟨j, g', h1, h2, h3⟩
            · exact .inl ⟨h1, j + 1, v, by omega, by simpa using h3, h4⟩
            · exact .inr (.inl ⟨h1, j + 1, g', by omega, by simpa using h3, h4⟩)
            · exact .inr (.inr ⟨j + 1, g', by omega, by simpa using h2, h3⟩)
theorem init_live : ∀ {ps : List PSh} {t b k b' : Nat}, (look (initS t b k ps) (1, b')).isSome = true ↔ b ≤ b' ∧ b' < b + npOf ps := by
  intro ps
  induction ps with
  | nil => intro t b k b'; simp [initS, look, npOf]
  | cons q ps ih =>
    intro t b k b'
    cases q with
    | col c => simp only [initS, look]; rw [if_neg (by simp)]; exact ih
    | agg c => simp only [initS, look]; rw [if_neg (by simp)]; exact ih
    | fn c => simp only [initS, look]; rw [if_neg (by simp)]; exact ih
    | ptr mt cs =>
      simp only [initS, look, npOf]
      rw [if_neg (by simp)]
      split
      · rename_i h; simp; omega
      · rename_i h
        rw [look_append, look_wsOf, if_neg (by simp), Option.none_or, ih]
        simp only [true_and] at h
        omega
end
end Go.Proofs.Ythhnnfmfeofknaa.Sy
