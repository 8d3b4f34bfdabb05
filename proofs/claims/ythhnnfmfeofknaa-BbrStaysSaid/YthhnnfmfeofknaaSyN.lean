/-
  A symbolic evaluator for the model's code, part N: two ways made one: that nothing is lost.
-/
import Derived.Test.YthhnnfmfeofknaaSyM
namespace Go.Proofs.Ythhnnfmfeofknaa.Sy
open Go Go.RowKit
set_option linter.unusedSimpArgs false
set_option linter.unusedVariables false

section
variable {Φ : Nat → List LV → List LV} {Pr : Nat → List LV → Prop} {C : Ctx} {ρ : Env} {p : Nat → Nat} {w : World}

theorem mergeU_look (c : E) (Sa Sb : Sm) (l : Loc) : ∀ (r done : St), look (mergeU c Sa Sb r done) l = if keyLoc l done then look done l else if keyLoc l r then some (mergeAt c Sa Sb l) else none := by
  intro r
  induction r with
  | nil =>
    intro done
    simp only [mergeU]
    cases hk : keyLoc l done with
    | true => rfl
    | false =>
      rw [keyLoc_eq] at hk
      simp only [Option.isSome_eq_false_iff, Option.isNone_iff_eq_none] at hk
      rw [hk]; rfl
  | cons e r ih =>
    intro done
    obtain ⟨k, x⟩ := e
    simp only [mergeU]
    by_cases hkl : k = l
    · subst hkl
      cases hk : keyLoc k done with
      | true => rw [if_pos rfl, ih, hk]; rfl
      | false =>
        rw [if_neg (by simp), ih]
        simp [keyLoc, look]
    · have hne : ¬ (k.1 = l.1 ∧ k.2 = l.2) := fun h => hkl (Prod.ext h.1 h.2)
      have hb : (decide (k.1 = l.1) && decide (k.2 = l.2)) = false := by
        rw [Bool.and_eq_false_iff]
        by_cases h1 : k.1 = l.1
        · exact .inr (by simp; exact fun h2 => hne ⟨h1, h2⟩)
        · exact .inl (by simp [h1])
      split
      · rw [ih]; simp [keyLoc, hb]
      · rw [ih]; simp [keyLoc, look, hb, hne]
theorem keyLoc_append (l : Loc) (r s : St) : keyLoc l (r ++ s) = (keyLoc l r || keyLoc l s) := by
  rw [keyLoc_eq, keyLoc_eq, keyLoc_eq, look_append]
  cases look r l <;> simp
theorem get_key {r s : St} {l : Loc} (h : keyLoc l r = false) : (r ++ s).get l = s.get l := by
  rw [keyLoc_eq] at h
  simp only [Option.isSome_eq_false_iff, Option.isNone_iff_eq_none] at h
  rw [St.get_append]
  simp only [upd, h, Option.getD_none]
theorem merge_at {S ua ub : St} {c : E} (l : Loc) : ((mergeU c (ua ++ S).get (ub ++ S).get (ua ++ ub) []) ++ S).get l =
    if keyLoc l (ua ++ ub) then mergeAt c (ua ++ S).get (ub ++ S).get l else S.get l := by
  rw [St.get_append]
  simp only [upd, mergeU_look]
  rw [if_neg (by simp [keyLoc])]
  split <;> simp
theorem deadOf_ok {um : St} {b : Nat} (h : look um (1, b) = some none) : b ∈ deadOf um := by
  have := look_mem h
  clear h
  induction um with
  | nil => simp at this
  | cons e r ih =>
    obtain ⟨l, x⟩ := e
    rcases List.mem_cons.1 this with he | he
    · simp only [Prod.mk.injEq] at he
      obtain ⟨rfl, rfl⟩ := he
      simp [deadOf]
    · have hi := ih he
      cases x with
      | none =>
        simp only [deadOf]
        split
        · exact List.mem_cons_of_mem _ hi
        · exact hi
      | some x => exact hi
/-- Fewer blocks alive. -/
structure Shr (dead : List Nat) (β β' : Blk) : Prop where
  at_ : β'.at_ = β.at_
  av : β'.av = β.av
  sub : ∀ b, β'.live b → β.live b
  sup : ∀ b, β.live b → b ∉ dead → β'.live b
theorem Shr.avoid {dead : List Nat} {β β' : Blk} (h : Shr dead β β') {g : Nat} (hg : ¬ β.avoid g) : ¬ β'.avoid g := by
  rintro (h1 | ⟨b, h1, h2⟩)
  · rw [h.av] at h1; exact hg (.inl h1)
  · exact hg (.inr ⟨b, h.sub b h1, by rw [← h.at_]; exact h2⟩)
theorem CV.shr {dead : List Nat} {β β' : Blk} (h : Shr dead β β') {c : CV} (hp : c.noPtr dead = true) {v : Value} (hr : c.rep ρ β w v) : c.rep ρ β' w v := by
  cases c <;> simp only [CV.rep] at hr ⊢
  · exact Col.lasts hr (Nat.le_refl _) (fun _ _ _ => rfl) (fun i _ hn => h.avoid hn)
  · obtain ⟨h1, rfl⟩ := hr
    simp only [CV.noPtr, Bool.not_eq_true', List.contains_eq_mem, decide_eq_false_iff_not] at hp
    exact ⟨h.sup _ h1 hp, by rw [h.at_]⟩
  · exact hr
  · exact hr
  · exact hr
  · obtain ⟨g, off, h1, h2, h3, h4⟩ := hr
    exact ⟨g, off, h1, h2.lasts (Nat.le_refl _) (fun _ _ _ => rfl) (fun i _ hn => h.avoid hn), h3, h4⟩
  · exact ⟨SlRep.lasts hr.1 (Nat.le_refl _) (fun _ _ _ => rfl) (fun i _ hn => h.avoid hn), hr.2⟩
theorem V1.shr {dead : List Nat} {β β' : Blk} (h : Shr dead β β') {x : V1} (hp : x.noPtr dead = true) {v : Value} (hr : x.rep ρ β w v) : x.rep ρ β' w v := by
  cases x with
  | cell c => exact CV.shr h hp hr
  | agg cs =>
    obtain ⟨us, h1, h2⟩ := hr
    exact ⟨us, h1, h2.env hp fun _ _ hp hr => CV.shr h hp hr⟩
theorem V2.shr {dead : List Nat} {β β' : Blk} (h : Shr dead β β') {x : V2} (hp : x.noPtr dead = true) {v : Value} (hr : x.rep ρ β w v) : x.rep ρ β' w v := by
  cases x with
  | one x => exact V1.shr h hp hr
  | tup xs =>
    obtain ⟨us, h1, h2⟩ := hr
    exact ⟨us, h1, h2.env hp fun _ _ hp hr => V1.shr h hp hr⟩
  | opt c x =>
    simp only [V2.rep] at hr ⊢
    split <;> rename_i hc
    · rw [if_pos hc] at hr; exact V1.shr h hp hr
    · rw [if_neg hc] at hr; exact hr
  | undef => exact hr
theorem noPtr_nil : ∀ (x : V2), x.noPtr [] = true := by
  have h1 : ∀ c : CV, c.noPtr [] = true := fun c => by cases c <;> simp [CV.noPtr]
  have h2 : ∀ x : V1, x.noPtr [] = true := fun x => by cases x <;> simp [V1.noPtr, h1]
  intro x
  cases x <;> simp [V2.noPtr, h2]
theorem noPtr_get {dead : List Nat} {s : St} (h : (dead.isEmpty || St.noPtr dead s) = true) {l : Loc} {x : V2} (hx : s.get l = some x) : x.noPtr dead = true := by
  simp only [Bool.or_eq_true] at h
  rcases h with h | h
  · have : dead = [] := List.isEmpty_iff.1 h
    subst this
    exact noPtr_nil x
  · have : look s l = some (some x) := by
      simp only [St.get] at hx
      cases hl : look s l with
      | none => rw [hl] at hx; simp at hx
      | some y => rw [hl] at hx; simp at hx; rw [hx]
    have := List.all_eq_true.1 h _ (look_mem this)
    exact this
/-- The state made of two fits where one of the two fits. -/
theorem merge_fits {S ua ub : St} {c : E} {a : Act} (hd : ((deadOf (mergeU c (ua ++ S).get (ub ++ S).get (ua ++ ub) [])).isEmpty || St.noPtr (deadOf (mergeU c (ua ++ S).get (ub ++ S).get (ua ++ ub) [])) ((mergeU c (ua ++ S).get (ub ++ S).get (ua ++ ub) []) ++ S)) = true)
    (h : if (c.den ρ).B = true then Mt C ρ p (ua ++ S).get a w else Mt C ρ p (ub ++ S).get a w) : Mt C ρ p ((mergeU c (ua ++ S).get (ub ++ S).get (ua ++ ub) []) ++ S).get a w := by
  -- one of the two, the other's part in the merge named
  have key : ∀ (s1 : St), (s1 = ua ++ S ∧ (c.den ρ).B = true) ∨ (s1 = ub ++ S ∧ (c.den ρ).B = false) → Mt C ρ p s1.get a w → Mt C ρ p ((mergeU c (ua ++ S).get (ub ++ S).get (ua ++ ub) []) ++ S).get a w := by
    intro s1 hs hM
    have hat := fun l => merge_at (S := S) (ua := ua) (ub := ub) (c := c) l
    have hother : ∀ l, keyLoc l (ua ++ ub) = false → s1.get l = S.get l := by
      intro l hl
      rw [keyLoc_append, Bool.or_eq_false_iff] at hl
      rcases hs with ⟨rfl, _⟩ | ⟨rfl, _⟩
      · exact get_key hl.1
      · exact get_key hl.2
    have hmerge : ∀ l z, mergeAt c (ua ++ S).get (ub ++ S).get l = some z → ∃ y, s1.get l = some y ∧ (l.1 = 1 → z = y) ∧ (l.1 ≠ 1 → ∃ ya yb, V2.merge c ya yb = some z ∧ ((ya = y ∧ (c.den ρ).B = true) ∨ (yb = y ∧ (c.den ρ).B = false))) := by
      intro l z hz
      unfold mergeAt at hz
      split at hz
      · rename_i x y hx hy
        split at hz
        · rename_i hl
          split at hz
          · rename_i hxy
            simp only [Option.some.injEq] at hz
            subst hz hxy
            rcases hs with ⟨rfl, _⟩ | ⟨rfl, _⟩
            · exact ⟨_, hx, fun _ => rfl, fun h => absurd hl h⟩
            · exact ⟨_, hy, fun _ => rfl, fun h => absurd hl h⟩
          · simp at hz
        · rename_i hl
          rcases hs with ⟨rfl, hc⟩ | ⟨rfl, hc⟩
          · exact ⟨x, hx, fun h => absurd h hl, fun _ => ⟨x, y, hz, .inl ⟨rfl, hc⟩⟩⟩
          · exact ⟨y, hy, fun h => absurd h hl, fun _ => ⟨x, y, hz, .inr ⟨rfl, hc⟩⟩⟩
      · simp at hz
    have hlive0 : ∀ b x, ((mergeU c (ua ++ S).get (ub ++ S).get (ua ++ ub) []) ++ S).get (1, b) = some x → s1.get (1, b) = some x := by
      intro b x hx
      rw [hat] at hx
      split at hx
      · obtain ⟨y, hy, h1, _⟩ := hmerge _ _ hx
        rw [hy, h1 rfl]
      · rename_i hk
        rw [hother _ (by simpa using hk)]
        exact hx
    have hshr : Shr (deadOf (mergeU c (ua ++ S).get (ub ++ S).get (ua ++ ub) [])) (blk C.av p s1.get) (blk C.av p ((mergeU c (ua ++ S).get (ub ++ S).get (ua ++ ub) []) ++ S).get) := by
      refine ⟨rfl, rfl, fun b hb => ?_, fun b hb hnd => ?_⟩
      · obtain ⟨x, hx⟩ := Option.isSome_iff_exists.1 hb
        show (s1.get (1, b)).isSome = true
        rw [hlive0 b x hx]; rfl
      · show (((mergeU c (ua ++ S).get (ub ++ S).get (ua ++ ub) []) ++ S).get (1, b)).isSome = true
        cases hm : ((mergeU c (ua ++ S).get (ub ++ S).get (ua ++ ub) []) ++ S).get (1, b) with
        | some x => rfl
        | none =>
          rw [hat] at hm
          split at hm
          · rename_i hk
            refine absurd (deadOf_ok ?_) hnd
            rw [mergeU_look, if_neg (by simp [keyLoc]), if_pos hk, hm]
          · rename_i hk
            have h2 : (s1.get (1, b)).isSome = true := hb
            rw [hother _ (by simpa using hk), hm] at h2
            simp at h2
    have hrep : ∀ l z, l.1 ≠ 1 → ((mergeU c (ua ++ S).get (ub ++ S).get (ua ++ ub) []) ++ S).get l = some z → ∃ y, s1.get l = some y ∧ (z = y ∨ ∃ ya yb, V2.merge c ya yb = some z ∧ ((ya = y ∧ (c.den ρ).B = true) ∨ (yb = y ∧ (c.den ρ).B = false))) := by
      intro l z hl hz
      rw [hat] at hz
      split at hz
      · obtain ⟨y, hy, _, h2⟩ := hmerge _ _ hz
        exact ⟨y, hy, .inr (h2 hl)⟩
      · rename_i hk
        exact ⟨z, by rw [hother _ (by simpa using hk)]; exact hz, .inl rfl⟩
    refine hM.less hlive0 ?_ ?_
    · intro t x hx
      obtain ⟨y, hy, hor⟩ := hrep (0, t) x (by simp) hx
      refine ⟨y, hy, fun v hv => V2.shr hshr (noPtr_get hd hx) ?_⟩
      rcases hor with rfl | ⟨ya, yb, hm, ⟨rfl, hc⟩ | ⟨rfl, hc⟩⟩
      · exact hv
      · exact V2.merge_ok hm (by rw [if_pos hc]; exact hv)
      · exact V2.merge_ok hm (by rw [if_neg (by simp [hc])]; exact hv)
    · intro b o x m _ _ hx
      obtain ⟨y, hy, hor⟩ := hrep (b + 2, o) x (by simp) hx
      refine ⟨y, hy, fun c1 hc1 => ?_⟩
      have hnp := noPtr_get hd hx
      rcases hor with rfl | ⟨ya, yb, hm, hor⟩
      · subst hc1
        exact ⟨c1, rfl, fun v hv => CV.shr hshr hnp hv⟩
      · have hcell : ∃ c', x = .one (.cell c') := by
          rcases hor with ⟨rfl, _⟩ | ⟨rfl, _⟩
          · subst hc1
            unfold V2.merge at hm
            split at hm
            · simp only [Option.some.injEq] at hm; exact ⟨c1, hm.symm⟩
            · split at hm
              · simp only [Option.map_eq_some_iff] at hm; obtain ⟨z, _, rfl⟩ := hm; exact ⟨z, rfl⟩
              · rename_i h1 h2; first | (cases h1; done) | (cases h2; done)
              · simp at hm
          · subst hc1
            unfold V2.merge at hm
            split at hm
            · rename_i he; simp only [Option.some.injEq] at hm; exact ⟨c1, by rw [← hm, he]⟩
            · split at hm
              · simp only [Option.map_eq_some_iff] at hm; obtain ⟨z, _, rfl⟩ := hm; exact ⟨z, rfl⟩
              · rename_i h1 h2; first | (cases h1; done) | (cases h2; done)
              · simp at hm
        obtain ⟨c', rfl⟩ := hcell
        refine ⟨c', rfl, fun v hv => CV.shr hshr hnp ?_⟩
        have hv2 : V2.rep ρ (blk C.av p s1.get) w (.one (.cell c')) v := by
          rcases hor with ⟨rfl, hc⟩ | ⟨rfl, hc⟩
          · subst hc1; exact V2.merge_ok hm (by rw [if_pos hc]; exact hv)
          · subst hc1; exact V2.merge_ok hm (by rw [if_neg (by simp [hc])]; exact hv)
        exact hv2
  by_cases hc : (c.den ρ).B = true
  · rw [if_pos hc] at h
    exact key _ (.inl ⟨rfl, hc⟩) h
  · rw [if_neg hc] at h
    exact key _ (.inr ⟨rfl, by simpa using hc⟩) h

/-! ### The trees -/
def Item.nb : Item → Bool
  | .bind _ _ _ _ => false
  | _ => true
def Item.holds (Pr : Nat → List LV → Prop) (ρ : Env) : Item → Prop
  | .need e => (e.den ρ).B = true
  | .pre g key es => (g.den ρ).B = true → Pr key (es.map (·.den ρ))
  | .bind _ _ _ _ => True
theorem wrapI_den {α : Type} {t : Tr α} {ks : List (List LV → Prop)} {Q : Env → List (List LV → Prop) → α → Prop} : ∀ {is : List Item}, is.all (·.nb) = true →
    (wrapI is t).den Φ Pr ρ ks Q → (∀ i, i ∈ is → i.holds Pr ρ) ∧ t.den Φ Pr ρ ks Q := by
  intro is
  induction is with
  | nil => intro _ h; exact ⟨by simp, h⟩
  | cons i r ih =>
    intro hn h
    simp only [List.all_cons, Bool.and_eq_true] at hn
    cases i with
    | need e =>
      have := ih hn.2 h.2
      exact ⟨by intro i hi; rcases List.mem_cons.1 hi with rfl | hi; exact h.1; exact this.1 i hi, this.2⟩
    | pre g key es =>
      have := ih hn.2 h.2
      exact ⟨by intro i hi; rcases List.mem_cons.1 hi with rfl | hi; exact h.1; exact this.1 i hi, this.2⟩
    | bind key es n m => simp [Item.nb] at hn
theorem lin_ok : ∀ {t : Tr Lf} {is : List Item} {l : Lf}, lin t = some (is, l) → is.all (·.nb) = true ∧ ∀ {ks : List (List LV → Prop)} {Q : Env → List (List LV → Prop) → Lf → Prop}, (∀ i, i ∈ is → i.holds Pr ρ) → Q ρ ks l → t.den Φ Pr ρ ks Q := by
  intro t
  induction t with
  | leaf x => intro is l h; simp only [lin, Option.some.injEq, Prod.mk.injEq] at h; obtain ⟨rfl, rfl⟩ := h; exact ⟨rfl, fun _ hq => hq⟩
  | item i t ih =>
    intro is l h
    cases i with
    | need e =>
      simp only [lin, Option.map_eq_some_iff, Prod.mk.injEq] at h
      obtain ⟨⟨is', l'⟩, hl, rfl, rfl⟩ := h
      obtain ⟨h1, h2⟩ := ih hl
      exact ⟨by simp only [List.all_cons, Item.nb, Bool.true_and]; exact h1, fun hall hq => ⟨hall (.need e) (by simp), h2 (fun i hi => hall i (List.mem_cons_of_mem _ hi)) hq⟩⟩
    | pre g key es =>
      simp only [lin, Option.map_eq_some_iff, Prod.mk.injEq] at h
      obtain ⟨⟨is', l'⟩, hl, rfl, rfl⟩ := h
      obtain ⟨h1, h2⟩ := ih hl
      exact ⟨by simp only [List.all_cons, Item.nb, Bool.true_and]; exact h1, fun hall hq => ⟨hall (.pre g key es) (by simp), h2 (fun i hi => hall i (List.mem_cons_of_mem _ hi)) hq⟩⟩
    | bind key es n m => simp [lin] at h
  | ite c a b _ _ => intro is l h; simp [lin] at h
  | loop n m init body _ => intro is l h; simp [lin] at h
  | next d es => intro is l h; simp [lin] at h
/-- What must hold at an end: whatever fits its state meets K. -/
def Fits (C : Ctx) (S : St) (K : Exit → Act → World → Prop) (ρ : Env) (ks : List (List LV → Prop)) (l : Lf) : Prop :=
  ks.length = l.d → ∀ p a w, Mt C ρ p (l.u ++ S).get a w → K l.ex.out a w
theorem Le.length {ks ks' : List (List LV → Prop)} (h : Le ks ks') : ks.length = ks'.length := All2.length h
theorem Fits.mono {S : St} {K : Exit → Act → World → Prop} {ks ks' : List (List LV → Prop)} {l : Lf} (h : Le ks ks') (hf : Fits C S K ρ ks l) : Fits C S K ρ ks' l :=
  fun hl => hf (by rw [h.length]; exact hl)
theorem guard_holds {c : E} {is : List Item} (h : ∀ i, i ∈ is.map (guardI c) → i.holds Pr ρ) (hc : (c.den ρ).B = true) : ∀ i, i ∈ is → i.holds Pr ρ := by
  intro i hi
  have := h _ (List.mem_map_of_mem hi)
  cases i with
  | need e => exact guardE_ok this hc
  | pre g key es => exact fun hg => this (by simp [E.den, O2.ev, hc, hg])
  | bind key es n m => trivial
theorem guard_nb {c : E} {is : List Item} (h : is.all (·.nb) = true) : (is.map (guardI c)).all (·.nb) = true := by
  rw [List.all_eq_true] at h ⊢
  intro i hi
  obtain ⟨j, hj, rfl⟩ := List.mem_map.1 hi
  have := h j hj
  cases j <;> simp_all [guardI, Item.nb]
theorem squash1_ok {S : St} {K : Exit → Act → World → Prop} {c : E} {a b : Tr Lf} {ks : List (List LV → Prop)} (h : (squash1 S c a b).den Φ Pr ρ ks (Fits C S K)) : (Tr.ite c a b).den Φ Pr ρ ks (Fits C S K) := by
  unfold squash1 at h
  split at h
  · rename_i ia la ib lb hla hlb
    split at h
    · rename_i hex
      simp only at h
      split at h
      · rename_i hd
        obtain ⟨na, fa⟩ := lin_ok (Φ := Φ) (Pr := Pr) (ρ := ρ) hla
        obtain ⟨nb, fb⟩ := lin_ok (Φ := Φ) (Pr := Pr) (ρ := ρ) hlb
        obtain ⟨h1, h2⟩ := wrapI_den (guard_nb na) h
        obtain ⟨h3, h4⟩ := wrapI_den (guard_nb nb) h2
        simp only [Tr.den]
        by_cases hc : (c.den ρ).B = true
        · rw [if_pos hc]
          refine fa (guard_holds h1 hc) ?_
          intro hk p a w hM
          exact h4 hk p a w (merge_fits hd (by rw [if_pos hc]; exact hM))
        · rw [if_neg hc]
          refine fb (guard_holds h3 (by simpa [E.den, O1.ev] using hc)) ?_
          intro hk p a w hM
          rw [← hex.1]
          exact h4 (by rw [hk]; exact hex.2.symm) p a w (merge_fits hd (by rw [if_neg hc]; exact hM))
      · exact h
    · exact h
  · exact h
theorem squash_ok {S : St} {K : Exit → Act → World → Prop} : ∀ {t : Tr Lf} {ρ : Env} {ks : List (List LV → Prop)}, (squash S t).den Φ Pr ρ ks (Fits C S K) → t.den Φ Pr ρ ks (Fits C S K) := by
  intro t
  induction t with
  | leaf x => intro ρ ks h; exact h
  | item i t ih =>
    intro ρ ks h
    cases i with
    | need e => exact ⟨h.1, ih h.2⟩
    | pre g key es => exact ⟨h.1, ih h.2⟩
    | bind key es n m => exact ih (ρ := setE ρ n m _) h
  | ite c a b ia ib =>
    intro ρ ks h
    have := squash1_ok h
    simp only [Tr.den] at this ⊢
    split
    · rename_i hc; rw [if_pos hc] at this; exact ia this
    · rename_i hc; rw [if_neg hc] at this; exact ib this
  | loop n m init body _ => intro ρ ks h; exact h
  | next d es => intro ρ ks h; exact h
end
end Go.Proofs.Ythhnnfmfeofknaa.Sy
