/-
  A symbolic evaluator for the model's code, part R: a function's contract from the tree of its body: soundness.
-/
import Derived.Test.YthhnnfmfeofknaaSyQ
namespace Go.Proofs.Ythhnnfmfeofknaa.Sy
open Go Go.RowKit
set_option linter.unusedSimpArgs false
set_option linter.unusedVariables false

section
variable {P : Program}
theorem SameL.append {ρ : Env} {f : Nat → LV} : ∀ {xs ys : List (Col × E)} {n : Nat}, SameL ρ f n (xs ++ ys) ↔ SameL ρ f n xs ∧ SameL ρ f (n + xs.length) ys := by
  intro xs
  induction xs with
  | nil => intro ys n; simp [SameL]
  | cons x xs ih =>
    intro ys n
    obtain ⟨c, e⟩ := x
    simp only [List.cons_append, SameL, ih, List.length_cons]
    rw [show n + 1 + xs.length = n + (xs.length + 1) by omega]
    exact and_assoc.symm
theorem withC_len : ∀ {cs : List Col} {xs : List CV} {es : List E}, cellsE cs xs = some es → (withC cs es).length = cs.length := by
  intro cs
  induction cs with
  | nil => intro xs es h; cases xs <;> simp [cellsE] at h; subst h; rfl
  | cons c cs ih =>
    intro xs es h
    cases xs with
    | nil => simp [cellsE] at h
    | cons x xs =>
      simp only [cellsE, Option.bind_eq_some_iff, Option.map_eq_some_iff] at h
      obtain ⟨e, _, es', h2, rfl⟩ := h
      simp [withC, ih h2]
theorem FRep.of {ρ : Env} {β : Blk} {w : World} {Tr : Nat → Prop} {f : Nat → LV} (hav : ∀ i, Tr i → β.avoid i) : ∀ {cs : List Col} {xs : List CV} {es : List E} {us : List Value} {n : Nat}, cellsE cs xs = some es → All2 (CV.rep ρ β w) xs us →
    SameL ρ f n (withC cs es) → FRep w Tr f n cs us := by
  intro cs
  induction cs with
  | nil => intro xs es us n h hx _; cases xs <;> simp [cellsE] at h; cases hx; rfl
  | cons c cs ih =>
    intro xs es us n h hx hs
    cases hx with
    | nil => simp [cellsE] at h
    | cons h1 h2 =>
      simp only [cellsE, Option.bind_eq_some_iff, Option.map_eq_some_iff] at h
      obtain ⟨e, he, es', hes, rfl⟩ := h
      obtain ⟨s1, s2⟩ := hs
      exact ⟨_, _, rfl, Col.lasts (Col.same_rep s1 (cellE_ok he h1)) (Nat.le_refl _) (fun _ _ _ => rfl) (fun i _ hn ht => hn (hav i ht)), ih hes h2 s2⟩
theorem RRep.of {ρ : Env} {β : Blk} {w : World} {Tr : Nat → Prop} {f : Nat → LV} (hav : ∀ i, Tr i → β.avoid i) : ∀ {rs : List RSh} {xs : List V1} {es : List (Col × E)} {us : List Value} {n : Nat}, resE rs xs = some es → All2 (V1.rep ρ β w) xs us →
    SameL ρ f n es → es.length = resLen rs ∧ RRep w Tr f n rs us := by
  intro rs
  induction rs with
  | nil => intro xs es us n h hx _; cases xs <;> simp [resE] at h; subst h; cases hx; exact ⟨rfl, rfl⟩
  | cons r rs ih =>
    intro xs es us n h hx hs
    cases hx with
    | nil => cases r <;> simp [resE] at h
    | cons h1 h2 =>
      rename_i x u xs us
      cases r with
      | col c =>
        cases x with
        | agg _ => simp [resE] at h
        | cell x =>
          simp only [resE, Option.bind_eq_some_iff, Option.map_eq_some_iff] at h
          obtain ⟨e, he, es', hes, rfl⟩ := h
          obtain ⟨s1, s2⟩ := hs
          obtain ⟨i1, i2⟩ := ih hes h2 s2
          exact ⟨by simp [resLen, RSh.len, i1]; omega, _, _, rfl, Col.lasts (Col.same_rep s1 (cellE_ok he h1)) (Nat.le_refl _) (fun _ _ _ => rfl) (fun i _ hn ht => hn (hav i ht)), i2⟩
      | agg cs =>
        cases x with
        | cell _ => simp [resE] at h
        | agg ys =>
          simp only [resE, Option.bind_eq_some_iff, Option.map_eq_some_iff] at h
          obtain ⟨e1, he, es', hes, rfl⟩ := h
          rw [SameL.append, withC_len he] at hs
          obtain ⟨vs, rfl, hvs⟩ := h1
          obtain ⟨i1, i2⟩ := ih hes h2 hs.2
          exact ⟨by simp [resLen, RSh.len, withC_len he, i1], vs, _, rfl, FRep.of hav he hvs hs.1, i2⟩
section
variable {C : Ctx} {ρ : Env} {p : Nat → Nat} {S : Sm} {a : Act} {w : World}
theorem FAt.of {Tr : Nat → Prop} {f : Nat → LV} (hav : ∀ i, Tr i → (blk C.av p S).avoid i) {g : Nat} : ∀ {cs : List Col} {xs : List CV} {es : List E} {us : List Value} {n j : Nat}, cellsE cs xs = some es → All2 (CV.rep ρ (blk C.av p S) w) xs us →
    (∀ i u, us[i]? = some u → w.cell? ⟨g, j + i, none⟩ = some u ∧ w.frozen? ⟨g, j + i, none⟩ = false) → SameL ρ f n (withC cs es) → FAt w Tr f g n j cs := by
  intro cs
  induction cs with
  | nil => intro xs es us n j h hx _ _; trivial
  | cons c cs ih =>
    intro xs es us n j h hx hc hs
    cases hx with
    | nil => simp [cellsE] at h
    | cons h1 h2 =>
      rename_i x u xs us
      simp only [cellsE, Option.bind_eq_some_iff, Option.map_eq_some_iff] at h
      obtain ⟨e, he, es', hes, rfl⟩ := h
      obtain ⟨s1, s2⟩ := hs
      have h0 := hc 0 u rfl
      rw [Nat.add_zero] at h0
      refine ⟨⟨u, h0.1, Col.lasts (Col.same_rep s1 (cellE_ok he h1)) (Nat.le_refl _) (fun _ _ _ => rfl) (fun i _ hn ht => hn (hav i ht)), h0.2⟩, ih hes h2 (fun i u hi => ?_) s2⟩
      have := hc (i + 1) u (by simpa using hi)
      rwa [show j + (i + 1) = j + 1 + i by omega] at this
theorem ORep.of {Tr : Nat → Prop} {f : Nat → LV} (hav : ∀ i, Tr i → (blk C.av p S).avoid i) (hM : Mt C ρ p S a w) : ∀ {ps : List PSh} {bs : List Nat} {es : List (Col × E)} {n b : Nat}, outE S b ps = some es → bs.length = npOf ps → (∀ j g, bs[j]? = some g → p (b + j) = g) →
    SameL ρ f n es → ORep w Tr f n ps bs := by
  intro ps
  induction ps with
  | nil => intro bs es n b h hl _ _; simp only [npOf, List.length_eq_zero_iff] at hl; subst hl; exact trivial
  | cons q ps ih =>
    intro bs es n b h hl hp hs
    cases q with
    | col c => exact ih (bs := bs) h hl hp hs
    | agg c => exact ih (bs := bs) h hl hp hs
    | fn c => exact ih (bs := bs) h hl hp hs
    | ptr mt cs =>
      cases mt with
      | false =>
        cases bs with
        | nil => simp [npOf] at hl
        | cons g bs =>
          exact ih (bs := bs) (b := b + 1) h (by simp [npOf] at hl; exact hl) (fun j g' hj => by
            have := hp (j + 1) g' (by simpa using hj)
            rwa [show b + (j + 1) = b + 1 + j by omega] at this) hs
      | true =>
        cases bs with
        | nil => simp [npOf] at hl
        | cons g bs =>
          simp only [outE] at h
          split at h
          · rename_i hmk
            simp only [Option.bind_eq_some_iff, Option.map_eq_some_iff] at h
            obtain ⟨e1, ⟨ys, hys, he1⟩, xs, hxs, rfl⟩ := h
            have hm : S (1, b) = some (mark cs.length) := by
              unfold isMark at hmk
              split at hmk
              · rename_i m hm; rw [hm]; simp only [decide_eq_true_eq] at hmk; rw [hmk]; rfl
              · simp at hmk
            rw [SameL.append, withC_len he1] at hs
            obtain ⟨_, us, _, hus, hcell⟩ := cvsOf_ok hM hm _ _ (by omega) hys
            have i1 := ih (bs := bs) hxs (by simp [npOf] at hl; exact hl) (fun j g' hj => by
              have := hp (j + 1) g' (by simpa using hj)
              rwa [show b + (j + 1) = b + 1 + j by omega] at this) hs.2
            have hg : p b = g := hp 0 g rfl
            rw [hg] at hcell
            exact ⟨FAt.of hav he1 hus hcell hs.1, i1⟩
          · simp at h
def resSem (tmps : Array Value) : ResultVar → Sem Value
  | .tmp t => pure (tmps.getD t Go.undef)
  | .cell b t => do loadVar t (← asAddr (tmps.getD b Go.undef))
theorem mutOf_ro : ∀ {ps : List PSh} {bs : List Nat} {b0 j g : Nat}, bs.length = npOf ps → bs[j]? = some g → (b0 + j) ∉ roOf b0 ps → g ∈ mutOf ps bs := by
  intro ps
  induction ps with
  | nil => intro bs b0 j g hl hj _; simp only [npOf, List.length_eq_zero_iff] at hl; subst hl; simp at hj
  | cons q ps ih =>
    intro bs b0 j g hl hj hr
    cases q with
    | col c => exact ih (bs := bs) hl hj hr
    | agg c => exact ih (bs := bs) hl hj hr
    | fn c => exact ih (bs := bs) hl hj hr
    | ptr mt cs =>
      cases bs with
      | nil => simp at hj
      | cons g0 bs =>
        cases j with
        | zero =>
          simp only [List.getElem?_cons_zero, Option.some.injEq] at hj
          subst hj
          cases mt with
          | true => simp [mutOf]
          | false => simp [roOf] at hr
        | succ j =>
          have hl' : bs.length = npOf ps := by simp [npOf] at hl; exact hl
          have hj' : bs[j]? = some g := by simpa using hj
          cases mt with
          | true =>
            have := ih (b0 := b0 + 1) hl' hj' (by rw [show b0 + 1 + j = b0 + (j + 1) by omega]; exact hr)
            simp [mutOf, this]
          | false =>
            simp only [roOf, List.mem_cons, not_or] at hr
            exact ih (b0 := b0 + 1) hl' hj' (by rw [show b0 + 1 + j = b0 + (j + 1) by omega]; exact hr.2)
theorem resVal_ok (hM : Mt C ρ p S a w) {r : ResultVar} {x : V1} (h : resVal P S r = some x) : ∃ v, (resSem a.tmps r).run P w = Result.ok v w ∧ x.rep ρ (blk C.av p S) w v := by
  cases r with
  | tmp t =>
    simp only [resVal] at h
    split at h
    · rename_i y hy
      simp only [Option.some.injEq] at h
      subst h
      exact ⟨_, rfl, hM.tmp t _ hy⟩
    · simp at h
  | cell b t =>
    simp only [resVal] at h
    split at h
    · rename_i b' o hb
      split at h
      · rename_i y hy
        simp only [Option.some.injEq] at h
        subst h
        obtain ⟨v, hrun, hr⟩ := mLoad_ok hM hy
        refine ⟨v, ?_, hr⟩
        have := hM.tmp b _ hb
        simp only [V2.rep, V1.rep, CV.rep] at this
        obtain ⟨_, hv⟩ := this
        simp only [resSem, hv, asAddr, Sem.run_bind, Sem.run_pure, Result.andThen_ok]
        simp only [Instr.loadAt, Instr.sureAddr, Sem.run_bind, Sem.run_pure, Result.andThen_ok] at hrun
        exact hrun
      · simp at h
    · simp at h
theorem resVals_ok (hM : Mt C ρ p S a w) : ∀ {rvs : List ResultVar} {xs : List V1}, resVals P S rvs = some xs → ∃ vs, (rvs.mapM (resSem a.tmps)).run P w = Result.ok vs w ∧ All2 (V1.rep ρ (blk C.av p S) w) xs vs := by
  intro rvs
  induction rvs with
  | nil => intro xs h; simp only [resVals, Option.some.injEq] at h; subst h; exact ⟨[], rfl, .nil⟩
  | cons r rs ih =>
    intro xs h
    simp only [resVals, Option.bind_eq_some_iff, Option.map_eq_some_iff] at h
    obtain ⟨x, hx, xs', hxs, rfl⟩ := h
    obtain ⟨v, h1, h2⟩ := resVal_ok hM hx
    obtain ⟨vs, h3, h4⟩ := ih hxs
    refine ⟨v :: vs, ?_, .cons h2 h4⟩
    simp only [List.mapM_cons, Sem.run_bind, Sem.run_pure]
    rw [h1]
    simp only [Result.andThen_ok]
    rw [h3]
    rfl
theorem results_ok (hM : Mt C ρ p S a w) {fn : Func} {xs : List V1} (h : resVals P S fn.results.toList = some xs) : ∃ us, (results fn a.tmps).run P w = .ok (retV us) w ∧ All2 (V1.rep ρ (blk C.av p S) w) xs us := by
  obtain ⟨vs, h1, h2⟩ := resVals_ok hM h
  refine ⟨vs, ?_, h2⟩
  have h2 : results fn a.tmps = (do
    let vs ← fn.results.mapM (resSem a.tmps)
    pure (if h : vs.size = 1 then vs[0] else .tuple vs)) := rfl
  rw [h2, Array.mapM_eq_mapM_toList]
  simp only [Sem.run_bind, Sem.run_map]
  rw [h1]
  simp only [Result.andThen_ok]
  cases vs with
  | nil => rfl
  | cons v r => cases r <;> rfl
end
theorem CRep_len {w : World} {Tr : Nat → Prop} : ∀ {cs : List Col} {l1 : List LV} {us : List Value}, CRep w Tr cs l1 us → l1.length = cs.length := by
  intro cs
  induction cs with
  | nil => intro l1 us h; cases l1 <;> cases us <;> first | rfl | exact h.elim
  | cons c cs ih => intro l1 us h; cases l1 <;> cases us <;> first | exact h.elim | simp [ih h.2]
theorem CAt_len {w : World} {Tr : Nat → Prop} {g : Nat} : ∀ {cs : List Col} {l1 : List LV} {j : Nat}, CAt w Tr g j cs l1 → l1.length = cs.length := by
  intro cs
  induction cs with
  | nil => intro l1 j h; cases l1 <;> first | rfl | exact h.elim
  | cons c cs ih => intro l1 j h; cases l1 <;> first | exact h.elim | simp [ih h.2]
theorem PRep_len {w : World} {Tr : Nat → Prop} : ∀ {ps : List PSh} {ls : List LV} {bs : List Nat} {vs : List Value}, PRep w Tr ps ls bs vs → ls.length = lenOf ps := by
  intro ps
  induction ps with
  | nil => intro ls bs vs h; rw [h.1]; rfl
  | cons q ps ih =>
    intro ls bs vs h
    cases q with
    | col c => obtain ⟨l, ls', v, vs', rfl, rfl, _, hp⟩ := h; simp [lenOf, ih hp]
    | agg cs => obtain ⟨l1, ls', us, vs', rfl, rfl, hc, hp⟩ := h; simp [lenOf, ih hp, CRep_len hc]; omega
    | fn f => obtain ⟨vs', rfl, hp⟩ := h; exact ih hp
    | ptr mt cs => obtain ⟨l1, ls', g, bs', vs', rfl, rfl, rfl, _, hc, hp⟩ := h; simp [lenOf, ih hp, CAt_len hc]; omega
/-- A FUNCTION's CONTRACT FROM THE TREE OF ITS BODY. -/
theorem con_ok {Φ : Nat → List LV → List LV} {Pr : Nat → List LV → Prop} {sigs : List Sig} (hcon : ∀ sg, sg ∈ sigs → ConOk P Φ Pr sg) (hm : P.follows .mixedOrders = true) {key fid : Nat} {fn : Func} {ps : List PSh} {rs : List RSh} {t : Tr (List (Col × E))} {F : List LV → List LV} {R : List LV → Prop}
    (hf : P.funcs[fid]? = some fn) (hn : (fn.name == "runtime.NumGoroutine") = false) (hc : compile P sigs fn ps rs = some t)
    (hd : ∀ ls, ls.length = lenOf ps → R ls → t.den Φ Pr (outOf ls) [] fun ρ _ es => SameL ρ (outOf (F ls)) 0 es) : ConOk P (fun _ => F) (fun _ => R) ⟨key, fid, ps, rs⟩ := by
  unfold compile at hc
  split at hc
  case isFalse => simp at hc
  rename_i hnt
  simp only [Option.bind_eq_some_iff, Option.map_eq_some_iff] at hc
  obtain ⟨c, hbody, ⟨tx, s1, n1⟩, hx, ⟨t', s2, n2⟩, hb, rfl⟩ := hc
  refine ⟨fun args w => ?_, ?_⟩
  · simp only [callFunc, Sem.run_bind, run_program, Result.andThen_ok, hf, hn, hbody, Option.isNone_some, Bool.false_eq_true, if_false]
    rfl
  · intro ls bs vs w Tr htr hbt hnd hrep hpre
    simp only at hrep hpre ⊢
    have hlen := PRep_len hrep
    have hden := hd ls hlen hpre
    let p : Nat → Nat := fun b => bs.getD b 0
    let C : Ctx := ⟨w, npOf ps, p, fn.ntmps, Tr, roOf 0 ps⟩
    have hlive : ∀ b, (blk C.av p (initS 0 0 0 ps).get).live b ↔ b < npOf ps := by
      intro b
      show ((initS 0 0 0 ps).get (1, b)).isSome = true ↔ _
      have h1 := init_live (ps := ps) (t := 0) (b := 0) (k := 0) (b' := b)
      simp only [Nat.zero_le, Nat.zero_add, true_and] at h1
      rw [← h1]
      simp only [St.get]
      cases hl : look (initS 0 0 0 ps) (1, b) with
      | none => simp
      | some y =>
        simp only [Option.getD_some, Option.isSome_some]
        have : ∀ (ps : List PSh) (t b' k : Nat) (y : Option V2), look (initS t b' k ps) (1, b) = some y → y.isSome = true := by
          intro ps
          induction ps with
          | nil => intro t b' k y h; simp [initS, look] at h
          | cons q ps ih =>
            intro t b' k y h
            cases q with
            | col c => simp only [initS, look] at h; rw [if_neg (by simp)] at h; exact ih _ _ _ _ h
            | agg c => simp only [initS, look] at h; rw [if_neg (by simp)] at h; exact ih _ _ _ _ h
            | fn c => simp only [initS, look] at h; rw [if_neg (by simp)] at h; exact ih _ _ _ _ h
            | ptr mt cs =>
              simp only [initS, look] at h
              rw [if_neg (by simp)] at h
              split at h
              · simp only [Option.some.injEq] at h; rw [← h]; rfl
              · rw [look_append, look_wsOf, if_neg (by simp), Option.none_or] at h
                exact ih _ _ _ _ h
        rw [this ps 0 0 0 y hl]
        exact ⟨fun _ => trivial, fun _ => rfl⟩
    have hbl : ∀ (ps : List PSh) (ls : List LV) (bs : List Nat) (vs : List Value), PRep w Tr ps ls bs vs → bs.length = npOf ps ∧ ∀ g, g ∈ bs → g < w.heap.size := by
      intro ps
      induction ps with
      | nil => intro ls bs vs h; obtain ⟨_, rfl, _⟩ := h; exact ⟨rfl, by simp⟩
      | cons q ps ih =>
        intro ls bs vs h
        cases q with
        | col c => obtain ⟨l, ls', v, vs', _, _, _, hp⟩ := h; exact ih _ _ _ hp
        | agg cs => obtain ⟨l1, ls', us, vs', _, _, _, hp⟩ := h; exact ih _ _ _ hp
        | fn f => obtain ⟨vs', _, hp⟩ := h; exact ih _ _ _ hp
        | ptr mt cs =>
          obtain ⟨l1, ls', g, bs', vs', _, rfl, _, hg, _, hp⟩ := h
          obtain ⟨i1, i2⟩ := ih _ _ _ hp
          exact ⟨by simp [npOf, i1], fun g' hg' => by rcases List.mem_cons.1 hg' with rfl | h; exact hg; exact i2 _ h⟩
    obtain ⟨hbslen, hbslt⟩ := hbl ps ls bs vs hrep
    have hav : ∀ i, (blk C.av p (initS 0 0 0 ps).get).avoid i → Tr i := by
      rintro i (h | ⟨b, hb, rfl⟩)
      · exact h
      · rw [hlive] at hb
        show Tr (bs.getD b 0)
        have hlt : b < bs.length := by omega
        rw [List.getD_eq_getElem?_getD, List.getElem?_eq_getElem hlt]
        exact hbt _ (List.getElem_mem _)
    have hatp : ∀ j g, bs[j]? = some g → p (0 + j) = g ∧ (blk C.av p (initS 0 0 0 ps).get).live (0 + j) := by
      intro j g hj
      rw [Nat.zero_add, hlive, ← hbslen]
      have hlt : j < bs.length := by
        rcases Nat.lt_or_ge j bs.length with h | h
        · exact h
        · rw [List.getElem?_eq_none h] at hj; simp at hj
      exact ⟨by show bs.getD j 0 = g; rw [List.getD_eq_getElem?_getD, hj]; rfl, hlt⟩
    obtain ⟨_, hvl, hlook⟩ := init_look (ρ := outOf ls) (β := blk C.av p (initS 0 0 0 ps).get) (t := 0) (b := 0) (k := 0) hav hrep (fun i _ => by rw [Nat.zero_add]) hatp
    have hget : ∀ l x, (initS 0 0 0 ps).get l = some x → look (initS 0 0 0 ps) l = some (some x) := by
      intro l x hx
      simp only [St.get] at hx
      cases hl : look (initS 0 0 0 ps) l with
      | none => rw [hl] at hx; simp at hx
      | some y => rw [hl] at hx; simp at hx; rw [hx]
    have hpn : ∀ b, b < npOf ps → p b ∈ bs := by
      intro b hb
      show bs.getD b 0 ∈ bs
      have hlt : b < bs.length := by omega
      rw [List.getD_eq_getElem?_getD, List.getElem?_eq_getElem hlt]
      exact List.getElem_mem _
    have hM : Mt C (outOf ls) p (initS 0 0 0 ps).get { tmps := vs.toArray ++ Array.replicate (fn.ntmps - vs.toArray.size) Go.undef, defers := [] } w := by
      refine ⟨rfl, ?_, ?_, ?_, ?_, ?_, fun _ _ => rfl, fun _ _ _ => rfl, rfl, rfl, rfl, Nat.le_refl _, htr⟩
      · show (vs.toArray ++ Array.replicate (fn.ntmps - vs.toArray.size) Go.undef).size = fn.ntmps
        simp
        omega
      · intro t x hx
        obtain ⟨x', hx', hor⟩ := hlook _ _ (hget _ _ hx)
        simp only [Option.some.injEq] at hx'
        subst hx'
        rcases hor with ⟨_, j, v, h1, h2, h3⟩ | ⟨h1, _⟩ | ⟨j, g, h1, _⟩
        · simp only [Nat.zero_add] at h1
          subst h1
          have hlt : t < vs.length := by
            rcases Nat.lt_or_ge t vs.length with h | h
            · exact h
            · rw [List.getElem?_eq_none h] at h2; simp at h2
          have : (vs.toArray ++ Array.replicate (fn.ntmps - vs.toArray.size) Go.undef).getD t Go.undef = v := by
            rw [Array.getD_eq_getD_getElem?, Array.getElem?_append_left (by simpa using hlt)]
            simp [h2]
          show x.rep _ _ w ((vs.toArray ++ Array.replicate (fn.ntmps - vs.toArray.size) Go.undef).getD t Go.undef)
          rw [this]
          exact h3
        · simp at h1
        · simp at h1
      · intro b o x m hb ho hx
        obtain ⟨x', hx', hor⟩ := hlook _ _ (hget _ _ hx)
        simp only [Option.some.injEq] at hx'
        subst hx'
        rcases hor with ⟨h1, _⟩ | ⟨h1, _⟩ | ⟨j, g, h1, h2, h3⟩
        · simp at h1
        · simp only at h1; omega
        · simp only [Nat.zero_add] at h1
          have hbj : b = j := by omega
          subst hbj
          have := (hatp b g h2).1
          rw [Nat.zero_add] at this
          rw [this]
          exact h3
      · intro b hb
        have hb' := (hlive b).1 hb
        refine ⟨hbslt _ (hpn b hb'), fun h => ?_⟩
        exact absurd hb' (by show ¬ b < npOf ps; have : npOf ps ≤ b := h; omega)
      · intro b b' hb hb' he
        have h1 := (hlive b).1 hb
        have h2 := (hlive b').1 hb'
        have e1 : bs[b]? = some (p b) := by
          show bs[b]? = some (bs.getD b 0)
          rw [List.getD_eq_getElem?_getD, List.getElem?_eq_getElem (by omega)]; rfl
        have e2 : bs[b']? = some (p b') := by
          show bs[b']? = some (bs.getD b' 0)
          rw [List.getD_eq_getElem?_getD, List.getElem?_eq_getElem (by omega)]; rfl
        rw [he, ← e2] at e1
        exact (List.getElem?_inj (by omega) hnd).1 e1
    refine calls_of_wp hf hbody ?_
    refine exec_ok (T := ⟨P, sigs, npOf ps, roOf 0 ps⟩) (C := C) hcon ⟨rfl, rfl⟩ hm c hx (ks := []) rfl hM ?_
    have h1 := bindT_ok (Q := fun ρ _ es => SameL ρ (outOf (F ls)) 0 es) (fun _ _ _ _ _ h => h) tx hb hden
    refine Sy.Tr.mono 0 tx tx.from_zero (Le.refl _) ?_ h1
    rintro ρ' k k' l ext _ _ _ ⟨s3, n3, t1, s4, n4, hfl, ht1⟩ hlen' p' a' w' hM'
    unfold finL at hfl
    split at hfl
    case isFalse => simp at hfl
    rename_i hex
    simp only [Option.map_eq_some_iff, Prod.mk.injEq] at hfl
    obtain ⟨xs, hfin, rfl, _, _⟩ := hfl
    have hsame : SameL ρ' (outOf (F ls)) 0 xs := ht1
    simp only [finS, Option.bind_eq_some_iff, Option.map_eq_some_iff] at hfin
    obtain ⟨es, ⟨ys, hys, hes⟩, os, hos, rfl⟩ := hfin
    rw [SameL.append, Nat.zero_add] at hsame
    have hav' : ∀ i, Tr i → (blk C.av p' (l.u ++ initS 0 0 0 ps).get).avoid i := fun i h => .inl h
    obtain ⟨us, hrun, hus⟩ := results_ok hM' hys
    obtain ⟨hl1, hr1⟩ := RRep.of hav' hes hus hsame.1
    rw [hl1] at hsame
    have ho1 := ORep.of hav' hM' (bs := bs) (b := 0) hos hbslen (fun j g hj => by
      have h1 := hatp j g hj
      rw [Nat.zero_add] at h1 ⊢
      rw [hM'.par j (by have := (hlive j).1 h1.2; exact this)]
      exact h1.1) hsame.2
    have hend : (∃ us, Ending.returned (retV us) = .returned (retV us) ∧ True) := ⟨us, rfl, trivial⟩
    have hext : Ext (fun i => i ∈ mutOf ps bs) w w' := by
      refine ⟨hM'.os, hM'.tape, hM'.output, hM'.grown, fun i hi hni => hM'.kept i hi fun b hb hbr he => hni ?_⟩
      have hlt : b < bs.length := by have : b < npOf ps := hb; omega
      have e1 : bs[b]? = some i := by
        rw [← he]
        show bs[b]? = some (bs.getD b 0)
        rw [List.getD_eq_getElem?_getD, List.getElem?_eq_getElem hlt]; rfl
      exact mutOf_ro (b0 := 0) hbslen e1 (by rw [Nat.zero_add]; exact hbr)
    have fin : bodyPost P fn (fun e w' => ∃ us, e = .returned (retV us) ∧ Ext (fun i => i ∈ mutOf ps bs) w w' ∧ RRep w' Tr (outOf (F ls)) 0 rs us ∧ ORep w' Tr (outOf (F ls)) (resLen rs) ps bs) l.ex.out a' w' := by
      rcases hex with hex | hex <;> rw [hex] <;> exact ⟨hM'.defers, retV us, hrun, us, rfl, hext, hr1, ho1⟩
    exact fin
/-- A contract under a name of its own. -/
def Kon (P : Program) (sg : Sig) (F : List LV → List LV) (R : List LV → Prop) : Prop := ConOk P (fun _ => F) (fun _ => R) sg
theorem Kon.to {sg : Sig} {F : List LV → List LV} {R : List LV → Prop} {Φ : Nat → List LV → List LV} {Pr : Nat → List LV → Prop} (h : Kon P sg F R) (h1 : Φ sg.key = F) (h2 : Pr sg.key = R) : ConOk P Φ Pr sg := by
  refine ⟨h.enters, ?_⟩
  rw [h1, h2]
  exact h.calls
/-! ### Trees without loops say what they come to -/
def Tr.ev (Φ : Nat → List LV → List LV) : Tr (List (Col × E)) → Env → List LV
  | .leaf xs, ρ => xs.map fun q => q.2.den ρ
  | .item (.bind key es n m) t, ρ => t.ev Φ (setE ρ n m (Φ key (es.map (·.den ρ))))
  | .item _ t, ρ => t.ev Φ ρ
  | .ite c a b, ρ => if (c.den ρ).B = true then a.ev Φ ρ else b.ev Φ ρ
  | .loop _ _ _ _, _ => []
  | .next _ _, _ => []
def Tr.flat {α : Type} : Tr α → Bool
  | .leaf _ => true
  | .item _ t => t.flat
  | .ite _ a b => a.flat && b.flat
  | _ => false
/-- What is asked on the way. -/
def Tr.safe (Φ : Nat → List LV → List LV) (Pr : Nat → List LV → Prop) : Tr (List (Col × E)) → Env → Prop
  | .leaf _, _ => True
  | .item (.need e) t, ρ => (e.den ρ).B = true ∧ t.safe Φ Pr ρ
  | .item (.pre g key es) t, ρ => ((g.den ρ).B = true → Pr key (es.map (·.den ρ))) ∧ t.safe Φ Pr ρ
  | .item (.bind key es n m) t, ρ => t.safe Φ Pr (setE ρ n m (Φ key (es.map (·.den ρ))))
  | .ite c a b, ρ => if (c.den ρ).B = true then a.safe Φ Pr ρ else b.safe Φ Pr ρ
  | .loop _ _ _ _, _ => False
  | .next _ _, _ => False
theorem Col.same_refl (c : Col) (x : LV) : c.same x x := by
  cases c with
  | base c => cases c <;> rfl
  | sl cs => rfl
theorem sameL_self (ρ : Env) : ∀ (xs : List (Col × E)) (pre : List LV), SameL ρ (outOf (pre ++ xs.map fun q => q.2.den ρ)) pre.length xs := by
  intro xs
  induction xs with
  | nil => intro pre; trivial
  | cons q xs ih =>
    intro pre
    obtain ⟨c, e⟩ := q
    refine ⟨?_, ?_⟩
    · have : outOf (pre ++ ((c, e) :: xs).map fun q => q.2.den ρ) pre.length = e.den ρ := by
        simp [outOf, List.getD_eq_getElem?_getD, List.getElem?_append_right]
      rw [this]
      exact Col.same_refl _ _
    · have := ih (pre ++ [e.den ρ])
      simpa using this
theorem den_ev {Φ : Nat → List LV → List LV} {Pr : Nat → List LV → Prop} : ∀ (t : Tr (List (Col × E))) {ρ : Env} {ks : List (List LV → Prop)}, t.safe Φ Pr ρ → t.den Φ Pr ρ ks fun ρ' _ es => SameL ρ' (outOf (t.ev Φ ρ)) 0 es := by
  intro t
  induction t with
  | leaf xs => intro ρ ks _; exact sameL_self ρ xs []
  | item i t ih =>
    intro ρ ks h
    cases i with
    | need e => exact ⟨h.1, ih h.2⟩
    | pre g key es => exact ⟨h.1, ih h.2⟩
    | bind key es n m => exact ih (ρ := setE ρ n m _) h
  | ite c a b ia ib =>
    intro ρ ks h
    simp only [Tr.safe] at h
    simp only [Tr.den, Tr.ev]
    split
    · rename_i hc; rw [if_pos hc] at h; exact ia h
    · rename_i hc; rw [if_neg hc] at h; exact ib h
  | loop n m init body _ => intro ρ ks h; exact h.elim
  | next d es => intro ρ ks h; exact h.elim
/-- Callees by a list. -/
def ap : List (Nat × (List LV → List LV)) → Nat → List LV → List LV
  | [], _ => fun _ => []
  | (k', f) :: r, k => if k = k' then f else ap r k
def apR : List (Nat × (List LV → Prop)) → Nat → List LV → Prop
  | [], _ => fun _ => True
  | (k', f) :: r, k => if k = k' then f else apR r k
/-- Where nothing at all is asked on the way. -/
def Tr.easy {α : Type} (hard : List Nat) : Tr α → Bool
  | .leaf _ => true
  | .item (.need _) _ => false
  | .item (.pre _ key _) t => !hard.contains key && t.easy hard
  | .item (.bind _ _ _ _) t => t.easy hard
  | .ite _ a b => a.easy hard && b.easy hard
  | _ => false
theorem easy_ok {Φ : Nat → List LV → List LV} {Pr : Nat → List LV → Prop} {hard : List Nat} (hp : ∀ k ls, k ∉ hard → Pr k ls) : ∀ (t : Tr (List (Col × E))) {ρ : Env}, t.easy hard = true → t.safe Φ Pr ρ := by
  intro t
  induction t with
  | leaf xs => intro ρ _; trivial
  | item i t ih =>
    intro ρ h
    cases i with
    | need e => simp [Tr.easy] at h
    | pre g key es =>
      simp only [Tr.easy, Bool.and_eq_true, Bool.not_eq_true', List.contains_eq_mem, decide_eq_false_iff_not] at h
      exact ⟨fun _ => hp _ _ h.1, ih h.2⟩
    | bind key es n m => exact ih (ρ := setE ρ n m _) h
  | ite c a b ia ib =>
    intro ρ h
    simp only [Tr.easy, Bool.and_eq_true] at h
    simp only [Tr.safe]
    split
    · exact ia h.1
    · exact ib h.2
  | loop n m init body _ => intro ρ h; simp [Tr.easy] at h
  | next d es => intro ρ h; simp [Tr.easy] at h
theorem kon_flat {sigs : List Sig} {Φ : Nat → List LV → List LV} {Pr : Nat → List LV → Prop} {key fid : Nat} {fn : Func} {ps : List PSh} {rs : List RSh} {t : Tr (List (Col × E))} (hcon : ∀ sg, sg ∈ sigs → ConOk P Φ Pr sg) (hm : P.follows .mixedOrders = true)
    (hf : P.funcs[fid]? = some fn) (hn : (fn.name == "runtime.NumGoroutine") = false) (hc : compile P sigs fn ps rs = some t) {R : List LV → Prop} (hs : ∀ ls, ls.length = lenOf ps → R ls → t.safe Φ Pr (outOf ls)) :
    Kon P ⟨key, fid, ps, rs⟩ (fun ls => t.ev Φ (outOf ls)) R :=
  con_ok hcon hm hf hn hc fun ls hl hr => den_ev t (hs ls hl hr)
end
end Go.Proofs.Ythhnnfmfeofknaa.Sy
