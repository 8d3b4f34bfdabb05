/-
  A symbolic evaluator for the model's code, part O: what a piece of code comes to, as a tree; and that whoever shows what the tree says has shown it of the code.
-/
import Derived.Test.YthhnnfmfeofknaaSyN
import Derived.Scope
namespace Go.Proofs.Ythhnnfmfeofknaa.Sy
open Go Go.RowKit
set_option linter.unusedSimpArgs false
set_option linter.unusedVariables false

/-! ### Regions -/
def bindsOf : List Rs → List Item
  | [] => []
  | R :: r => match R.bind with
    | some (_, key, es, n, m) => .bind key es n m :: bindsOf r
    | none => bindsOf r
def needsOf : List E → List Item
  | [] => []
  | e :: r => if e = .kb true then needsOf r else .need e :: needsOf r
def presOf : List Rs → List Item
  | [] => []
  | R :: r => (match R.bind with
    | some (g, key, es, _, _) => [.pre g key es]
    | none => []) ++ (needsOf R.needs ++ presOf r)
def checkB (n : Nat) : List Rs → Bool
  | [] => true
  | R :: r => match R.bind with
    | some (_, _, es, n', m) => decide (n' = n) && (es.all (·.ok fun i => decide (i < n)) && checkB (n + m) r)
    | none => checkB n r
def deltaOf : List Rs → St → St
  | [], acc => acc
  | R :: r, acc => deltaOf r (R.writes ++ acc)
def St.okB (n : Nat) (s : St) : Bool := s.all fun e => match e.2 with
  | some x => x.ok fun i => decide (i < n)
  | none => true
def execRegion (T : Set) (nt : Nat) (ops : Array Oper) (draw : Bool) (S : St) (d s n : Nat) : Option (Tr Lf × Nat × Nat) :=
  (lex T nt ops ops.toList s n S).bind fun q =>
    if ((!draw || (edgesOk ops.toList 0 && orderOk q.1 0 (masks ops.toList []))) && (checkB n q.1 && ((bindsOf q.1).isEmpty || S.okB n))) = true then
      some (wrapI (bindsOf q.1) (wrapI (presOf q.1) (.leaf ⟨.normal, deltaOf q.1 [], d⟩)), q.2.1, q.2.2.1)
    else none

/-! ### Loops -/
abbrev Hv := List (Loc × Option Col)
def hvOf : Hv → Nat → St
  | [], _ => []
  | (l, some c) :: r, n => (l, some (.one (.cell (.ex c (.v n))))) :: hvOf r (n + 1)
  | (l, none) :: r, n => (l, none) :: hvOf r n
def hvLen : Hv → Nat
  | [] => 0
  | (_, some _) :: r => hvLen r + 1
  | (_, none) :: r => hvLen r
def cellX (c : Col) : Option V2 → Option E
  | some (.one (.cell x)) => cellE c x
  | _ => none
def esOf : Hv → St → Option (List E)
  | [], _ => some []
  | (l, some c) :: r, Z => (cellX c (Z.get l)).bind fun e => (esOf r Z).map fun es => e :: es
  | (_, none) :: r, Z => esOf r Z
def colV : Option V2 → Option Col
  | some (.one (.cell (.ex c _))) => some c
  | some (.one (.cell (.tsl cs _))) => some (.sl cs)
  | _ => none
def joinCol (x y : Option V2) : Option Col :=
  match colV x with
  | some c => some c
  | none => colV y
def hasKey (l : Loc) : Hv → Bool
  | [] => false
  | (k, _) :: r => (decide (k.1 = l.1) && decide (k.2 = l.2)) || hasKey l r
def newKeys (S Z : St) : St → Hv → Hv
  | [], M => M
  | (l, _) :: r, M => if hasKey l M || decide (S.get l = none) || decide (Z.get l = S.get l) then newKeys S Z r M else newKeys S Z r (M ++ [(l, joinCol (S.get l) (Z.get l))])
def growM (S H : St) : Tr Lf → Hv → Hv
  | .leaf l, M => if l.ex = .normal then newKeys S (l.u ++ H) l.u M else M
  | .item _ t, M => growM S H t M
  | .ite _ a b, M => growM S H b (growM S H a M)
  | .loop _ _ _ t, M => growM S H t M
  | .next _ _, M => M
def findM (f : St → Nat → Option (Tr Lf × Nat × Nat)) (S : St) (n : Nat) : Nat → Hv → Hv
  | 0, M => M
  | k + 1, M => match f (hvOf M n ++ S) (n + hvLen M) with
    | none => M
    | some q => let M' := growM S (hvOf M n ++ S) q.1 M
      if M'.length = M.length then M else findM f S n k M'
def keepOk (hv S u : St) : Bool := u.all fun e => keyLoc e.1 hv || (decide (S.get e.1 = none) || decide (S.get e.1 = u.get e.1))
def newB (S : St) : St → List Nat
  | [] => []
  | (l, _) :: r => if l.1 = 1 then (if S.get l = none then l.2 :: newB S r else newB S r) else newB S r
def noMark (hv : St) : Bool := hv.all fun e => decide (e.1.1 ≠ 1)
def loopL (M : Hv) (hv S : St) (d : Nat) (l : Lf) (s n : Nat) : Option (Tr Lf × Nat × Nat) :=
  if l.ex = .normal then
    (if (keepOk hv S l.u && ((newB S l.u).isEmpty || S.noPtr (newB S l.u))) = true then (esOf M (l.u ++ (hv ++ S))).map fun es => (.next d es, s, n) else none)
  else some (.leaf ⟨l.ex, l.u ++ hv, l.d⟩, s, n)
def loopX (f : St → Nat → Option (Tr Lf × Nat × Nat)) (M : Hv) (S : St) (d n : Nat) : Option (Tr Lf × Nat × Nat) :=
  if (S.okB n && noMark (hvOf M n)) = true then
    (esOf M S).bind fun es => (f (hvOf M n ++ S) (n + hvLen M)).bind fun q =>
      if q.1.from_ (n + hvLen M) = true then (bindT (loopL M (hvOf M n) S d) q.1 q.2.1 q.2.2).map fun r => (.loop n (hvLen M) es r.1, r.2) else none
  else none

/-! ### Code -/
def thenL (f : St → Nat → Nat → Nat → Option (Tr Lf × Nat × Nat)) (S : St) (l : Lf) (s n : Nat) : Option (Tr Lf × Nat × Nat) :=
  if l.ex = .normal then (f (l.u ++ S) l.d s n).map fun q => (q.1.map fun l' => ⟨l'.ex, l'.u ++ l.u, l'.d⟩, q.2) else some (.leaf l, s, n)
def unblock (id : Nat) (l : Lf) : Lf := if l.ex = .exit id then ⟨.normal, l.u, l.d⟩ else l
def exec (T : Set) (nt : Nat) : Code → St → Nat → Nat → Nat → Option (Tr Lf × Nat × Nat)
  | .skip, _, d, s, n => some (.leaf ⟨.normal, [], d⟩, s, n)
  | .label _, _, d, s, n => some (.leaf ⟨.normal, [], d⟩, s, n)
  | .exit id, _, d, s, n => some (.leaf ⟨.exit id, [], d⟩, s, n)
  | .ret, _, d, s, n => some (.leaf ⟨.ret, [], d⟩, s, n)
  | .region _ ops draw, S, d, s, n => execRegion T nt ops draw S d s n
  | .seq a b, S, d, s, n => (exec T nt a S d s n).bind fun q => bindT (thenL (exec T nt b) S) q.1 q.2.1 q.2.2
  | .cond c a b, S, d, s, n => match evalS S.get c with
    | some (.one (.cell (.ex (.base .bool) (.kb x)))) => if x then exec T nt a S d s n else exec T nt b S d s n
    | some (.one (.cell (.ex (.base .bool) e))) => (match exec T nt a S d s n with
      | some q => (match exec T nt b S d q.2.1 q.2.2 with
        | some r => some (squash1 S e q.1 r.1, r.2)
        | none => some (.item (.need e) q.1, q.2))
      | none => (exec T nt b S d s n).map fun r => (.item (.need (.op1 .not e)) r.1, r.2))
    | _ => none
  | .block id a, S, d, s, n => (exec T nt a S d s n).map fun q => (squash S (q.1.map (unblock id)), q.2)
  | .scope a, S, d, s, n => exec T nt a S d s n
  | .loop a, S, d, s, n => loopX (fun Z m => exec T nt a Z (d + 1) s m) (findM (fun Z m => exec T nt a Z (d + 1) s m) S n 6 []) S d n
  | .rangeFunc _ _ _ _, _, _, _, _ => none
  | .goto _, _, _, _, _ => none
  | .refuse _, _, _, _, _ => none

section
variable {Φ : Nat → List LV → List LV} {Pr : Nat → List LV → Prop} {T : Set} {C : Ctx}

theorem needsOf_ok {ρ : Env} : ∀ {es : List E}, (∀ i, i ∈ needsOf es → i.holds Pr ρ) → ∀ e, e ∈ es → (e.den ρ).B = true := by
  intro es
  induction es with
  | nil => intro _ e h; simp at h
  | cons x r ih =>
    intro h e he
    simp only [needsOf] at h
    split at h
    · rename_i hx
      rcases List.mem_cons.1 he with rfl | he
      · rw [hx]; rfl
      · exact ih h e he
    · rcases List.mem_cons.1 he with rfl | he
      · exact h (.need e) (by simp)
      · exact ih (fun i hi => h i (List.mem_cons_of_mem _ hi)) e he
theorem needsOf_nb : ∀ {es : List E}, (needsOf es).all (·.nb) = true := by
  intro es
  induction es with
  | nil => rfl
  | cons x r ih =>
    simp only [needsOf]
    split
    · exact ih
    · simp only [List.all_cons, Item.nb, Bool.true_and]; exact ih
theorem presOf_nb : ∀ {rs : List Rs}, (presOf rs).all (·.nb) = true := by
  intro rs
  induction rs with
  | nil => rfl
  | cons R r ih =>
    simp only [presOf, List.all_append, ih, needsOf_nb, Bool.and_true]
    split <;> rfl
theorem presOf_ok {ρ : Env} : ∀ {rs : List Rs}, (∀ i, i ∈ presOf rs → i.holds Pr ρ) → ∀ R, R ∈ rs → (∀ e, e ∈ R.needs → (e.den ρ).B = true) ∧
    ∀ g key es n m, R.bind = some (g, key, es, n, m) → (g.den ρ).B = true → Pr key (es.map (·.den ρ)) := by
  intro rs
  induction rs with
  | nil => intro _ R h; simp at h
  | cons R r ih =>
    intro h R' hR
    simp only [presOf, List.mem_append] at h
    rcases List.mem_cons.1 hR with rfl | hR
    · refine ⟨needsOf_ok fun i hi => h i (.inr (.inl hi)), fun g key es n m hb hg => ?_⟩
      have := h (.pre g key es) (.inl (by rw [hb]; simp))
      exact this hg
    · exact ih (fun i hi => h i (.inr (.inr hi))) R' hR
theorem binds_ok {α : Type} {t : Tr α} {ks : List (List LV → Prop)} {Q : Env → List (List LV → Prop) → α → Prop} : ∀ {rs : List Rs} {n : Nat} {ρ : Env}, checkB n rs = true → (wrapI (bindsOf rs) t).den Φ Pr ρ ks Q →
    ∃ ρ', (∀ i, i < n → ρ' i = ρ i) ∧ (bindsOf rs = [] → ρ' = ρ) ∧ t.den Φ Pr ρ' ks Q ∧ ∀ R, R ∈ rs → ∀ g key es n m, R.bind = some (g, key, es, n, m) → ∀ i, i < m → ρ' (n + i) = outOf (Φ key (es.map (·.den ρ'))) i := by
  intro rs
  induction rs with
  | nil => intro n ρ _ h; exact ⟨ρ, fun _ _ => rfl, fun _ => rfl, h, by simp⟩
  | cons R r ih =>
    intro n ρ hc h
    simp only [checkB] at hc
    simp only [bindsOf] at h ⊢
    cases hb : R.bind with
    | none =>
      rw [hb] at hc h
      obtain ⟨ρ', h1, h2, h3, h4⟩ := ih hc h
      refine ⟨ρ', h1, h2, h3, fun R' hR' g key es n m hb' => ?_⟩
      rcases List.mem_cons.1 hR' with rfl | hR'
      · rw [hb] at hb'; simp at hb'
      · exact h4 R' hR' g key es n m hb'
    | some q =>
      obtain ⟨g, key, es, n', m⟩ := q
      rw [hb] at hc h
      simp only [Bool.and_eq_true, decide_eq_true_eq] at hc
      obtain ⟨rfl, hc1, hc2⟩ := hc
      have h' : (wrapI (bindsOf r) t).den Φ Pr (setE ρ n' m (Φ key (es.map (·.den ρ)))) ks Q := h
      obtain ⟨ρ', h1, h2, h3, h4⟩ := ih hc2 h'
      have hlow : ∀ i, i < n' → ρ' i = ρ i := fun i hi => by rw [h1 i (by omega), setE_lt hi]
      have hes : es.map (·.den ρ') = es.map (·.den ρ) := List.map_congr_left fun e he => E.den_ok (f := fun i => decide (i < n')) (fun i hi => hlow i (of_decide_eq_true hi)) e (List.all_eq_true.1 hc1 e he)
      refine ⟨ρ', hlow, fun h => by simp at h, h3, fun R' hR' g1 key1 es1 n1 m1 hb' => ?_⟩
      rcases List.mem_cons.1 hR' with rfl | hR'
      · rw [hb] at hb'
        simp only [Option.some.injEq, Prod.mk.injEq] at hb'
        obtain ⟨rfl, rfl, rfl, rfl, rfl⟩ := hb'
        intro i hi
        rw [h1 _ (by omega), setE_in hi, hes]
      · exact h4 R' hR' g1 key1 es1 n1 m1 hb'
theorem deltaOf_ok {nt : Nat} {ops : Array Oper} : ∀ {os : List Oper} {s n s' n' : Nat} {acc S0 S' : St} {rs : List Rs}, lex T nt ops os s n (acc ++ S0) = some (rs, s', n', S') → S' = deltaOf rs acc ++ S0 := by
  intro os
  induction os with
  | nil => intro s n s' n' acc S0 S' rs h; simp only [lex, Option.some.injEq, Prod.mk.injEq] at h; obtain ⟨rfl, rfl, rfl, rfl⟩ := h; rfl
  | cons o os ih =>
    intro s n s' n' acc S0 S' rs h
    simp only [lex, Option.bind_eq_some_iff, Option.map_eq_some_iff, Prod.mk.injEq] at h
    obtain ⟨R, hR, ⟨rs', q⟩, hr, rfl, rfl⟩ := h
    rw [← List.append_assoc] at hr
    have h3 := ih hr
    exact h3
theorem Mt.okB {ρ ρ' : Env} {p : Nat → Nat} {S : St} {a : Act} {w : World} {n : Nat} (h : Mt C ρ p S.get a w) (hS : S.okB n = true) (hρ : ∀ i, i < n → ρ' i = ρ i) : Mt C ρ' p S.get a w := by
  refine h.env (f := fun i => decide (i < n)) (fun i hi => hρ i (of_decide_eq_true hi)) fun l x hx => ?_
  have : look S l = some (some x) := by
    simp only [St.get] at hx
    cases hl : look S l with
    | none => rw [hl] at hx; simp at hx
    | some y => rw [hl] at hx; simp at hx; rw [hx]
  exact List.all_eq_true.1 hS _ (look_mem this)
theorem Mt.drawn {ρ : Env} {p : Nat → Nat} {S : Sm} {a : Act} {w : World} {n : Nat} (h : Mt C ρ p S a w) : Mt C ρ p S a { w with drawn := n } := by
  have hx : Ext (blk C.av p S).trk w { w with drawn := n } := ⟨rfl, rfl, rfl, Nat.le_refl _, fun _ _ _ => rfl⟩
  refine ⟨h.defers, h.size, fun t x hx' => V2.lasts (h.tmp t x hx') hx (Grow.refl _ _), fun b o x m h1 h2 h3 => ?_, h.live, h.inj, h.par, h.kept, h.os, h.tape, h.output, h.grown, h.avlt⟩
  obtain ⟨c, u, h4, h5, h6, h7⟩ := h.cell b o x m h1 h2 h3
  exact ⟨c, u, h4, h5, CV.lasts h6 hx (Grow.refl _ _), h7⟩
theorem execRegion_ok (hcon : ∀ sg, sg ∈ T.sigs → ConOk T.P Φ Pr sg) (hnp : C.np = T.np ∧ C.ro = T.ro) (hm : T.P.follows .mixedOrders = true) {id : Nat} {ops : Array Oper} {draw : Bool} {S : St} {d s n s' n' : Nat} {t : Tr Lf}
    (h : execRegion T C.nt ops draw S d s n = some (t, s', n')) {ρ : Env} {ks : List (List LV → Prop)} {K : Exit → Act → World → Prop} {p : Nat → Nat} {a : Act} {w : World} (hk : ks.length = d) (hM : Mt C ρ p S.get a w)
    (ht : t.den Φ Pr ρ ks (Fits C S K)) : (Code.region id ops draw).wp T.P K a w := by
  unfold execRegion at h
  simp only [Option.bind_eq_some_iff] at h
  obtain ⟨⟨rs, s1, n1, S'⟩, hl, h⟩ := h
  split at h
  case isFalse => simp at h
  rename_i hc
  simp only [Bool.and_eq_true] at hc
  simp only [Option.some.injEq, Prod.mk.injEq] at h
  obtain ⟨rfl, rfl, rfl⟩ := h
  obtain ⟨hdr, hcb, hok⟩ := hc
  obtain ⟨ρ', h1, h2, h3, h4⟩ := binds_ok hcb ht
  obtain ⟨h5, h6⟩ := wrapI_den presOf_nb h3
  have hpre := presOf_ok h5
  have hM' : Mt C ρ' p S.get a w := by
    simp only [Bool.or_eq_true] at hok
    rcases hok with hok | hok
    · rw [h2 (List.isEmpty_iff.1 hok)]; exact hM
    · exact hM.okB hok h1
  have hS' := deltaOf_ok (acc := []) (S0 := S) hl
  have hall : ∀ R, R ∈ rs → (∀ e, e ∈ R.needs → (e.den ρ').B = true) ∧ BindsOk Φ Pr ρ' R.bind := by
    intro R hR
    obtain ⟨g1, g2⟩ := hpre R hR
    refine ⟨g1, ?_⟩
    cases hb : R.bind with
    | none => trivial
    | some q =>
      obtain ⟨g, key, es, n, m⟩ := q
      exact ⟨h4 R hR g key es n m hb, g2 g key es n m hb⟩
  have hQ : ∀ p a w, Mt C ρ' p S'.get a w → K .normal a w := by
    intro p a w hM2
    rw [hS'] at hM2
    exact h6 hk p a w hM2
  cases draw with
  | false => exact wp_region_list ((lex_ok hl).run hcon hnp hall hQ p a w hM')
  | true =>
    simp only [Bool.not_true, Bool.false_or, Bool.and_eq_true] at hdr
    refine wp_region_any hm (any_order hcon hnp (lex_ok hl) hdr.1 hdr.2 hall hQ ops.size _ p a _ (by simp) (by simp) ?_ ?_)
    · intro j o ho hin
      unfold isIn at hin
      rw [Array.getD_eq_getD_getElem?, Array.getElem?_replicate] at hin
      split at hin <;> simp at hin
    · have e0 : over (isIn (Array.replicate ops.size false)) 0 rs S.get = S.get := by
        funext l
        refine over_none rs 0 S.get fun k R _ _ => ?_
        unfold isIn
        rw [Array.getD_eq_getD_getElem?, Array.getElem?_replicate]
        split <;> rfl
      rw [e0]
      exact hM'.drawn
end
end Go.Proofs.Ythhnnfmfeofknaa.Sy
