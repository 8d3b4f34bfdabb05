/-
  A symbolic evaluator for the model's code, part K: the operations of a region in the order of the text, and in any order that its edges allow.
-/
import Derived.Test.YthhnnfmfeofknaaSyJ
namespace Go.Proofs.Ythhnnfmfeofknaa.Sy
open Go Go.RowKit
set_option linter.unusedSimpArgs false
set_option linter.unusedVariables false

def constV : Value → Option V2
  | .int k n => some (.one (.cell (int k (.ki n))))
  | .bool b => some (.one (.cell (bool (.kb b))))
  | .pointer none => some (.one (.cell .nilp))
  | .slice none 0 0 => some (.one (.cell .nils))
  | .tuple vs => if vs.size = 0 then some .undef else none
  | _ => none
def evalS (S : Sm) : Operand → Option V2
  | .tmp t => S (0, t)
  | .const v => constV v
  | .func f => some (.one (.cell (.fn f)))
  | .global _ => none
def evalAll (S : Sm) : List Operand → Option (List V2)
  | [] => some []
  | o :: r => (evalS S o).bind fun x => (evalAll S r).map fun xs => x :: xs
def polE (want : Bool) (e : E) : E := if want then e else .op1 .not e
def gTmp (ops : Array Oper) (j : Nat) : Option Tmp := (ops[j]?).bind (·.dst)
def gcond (ops : Array Oper) (S : Sm) (o : Oper) : Option E :=
  match o.guard with
  | none => some (.kb true)
  | some (j, want) => (match gTmp ops j with
    | some d => (match S (0, d) with
      | some (.one (.cell (.ex (.base .bool) e))) => some (polE want e)
      | some (.opt c (.cell (.ex (.base .bool) e))) => some (.op2 .and c (polE want e))
      | some .undef => some (.kb false)
      | _ => none)
    | none => none)
def opLocs : List Operand → List Loc
  | [] => []
  | .tmp t :: r => (0, t) :: opLocs r
  | _ :: r => opLocs r
def gLocs (ops : Array Oper) (o : Oper) : List Loc :=
  match o.guard with
  | none => []
  | some (j, _) => (match gTmp ops j with
    | some d => [(0, d)]
    | none => [])
def wrapG (g : E) : V2 → Option V2
  | .one x => some (.opt g x)
  | .opt c x => some (.opt (if impS g c true then g else .op2 .and g c) x)
  | .undef => some .undef
  | .tup _ => none
def guardE (g e : E) : E := if g = .kb true then e else .op2 .or (.op1 .not g) e
structure Rs where
  reads : List Loc
  writes : St
  needs : List E
  bind : Option (E × (Nat × List E × Nat × Nat))
def dstOk (nt : Nat) : Option Tmp → Bool
  | some d => decide (d < nt)
  | none => true
def lastVal (o : Oper) (g : E) (A : Ac) : Option V2 :=
  match o.guard with
  | none => some A.val
  | some _ => if A.ws.isEmpty then wrapG g A.val else none
def resolve (T : Set) (nt : Nat) (ops : Array Oper) (s n : Nat) (o : Oper) (S : Sm) : Option Rs :=
  (gcond ops S o).bind fun g => (evalAll S o.op.operands.toList).bind fun xs =>
    (act T g s n o.op xs ((cellReads T s o.op (xs.map (strip g))).map S)).bind fun A => (lastVal o g A).bind fun z =>
      if dstOk nt o.dst then some ⟨gLocs ops o ++ (opLocs o.op.operands.toList ++ cellReads T s o.op (xs.map (strip g))), dw o.dst z ++ A.ws, A.needs.map (guardE g), A.bind.map fun b => (g, b)⟩ else none

section
variable {T : Set} {C : Ctx} {ρ : Env} {p : Nat → Nat} {S S' : Sm} {a : Act} {w : World} {ops : Array Oper}
theorem constV_ok {β : Blk} {v : Value} {x : V2} (h : constV v = some x) : x.rep ρ β w v := by
  unfold constV at h
  split at h
  · simp only [Option.some.injEq] at h; subst h; rfl
  · simp only [Option.some.injEq] at h; subst h; rfl
  · simp only [Option.some.injEq] at h; subst h; rfl
  · simp only [Option.some.injEq] at h; subst h; rfl
  · split at h
    · rename_i hs
      simp only [Option.some.injEq] at h; subst h
      rename_i vs
      have : vs = #[] := Array.eq_empty_of_size_eq_zero hs
      subst this
      rfl
    · simp at h
  · simp at h
theorem evalAll_ok (hM : Mt C ρ p S a w) : ∀ {os : List Operand} {xs : List V2}, evalAll S os = some xs → All2 (V2.rep ρ (blk C.av p S) w) xs (os.map a.eval) := by
  intro os
  induction os with
  | nil => intro xs h; simp only [evalAll, Option.some.injEq] at h; subst h; exact .nil
  | cons o os ih =>
    intro xs h
    simp only [evalAll, Option.bind_eq_some_iff, Option.map_eq_some_iff] at h
    obtain ⟨x, hx, xs', hxs, rfl⟩ := h
    refine .cons ?_ (ih hxs)
    cases o with
    | tmp t => exact hM.tmp t x hx
    | const v => exact constV_ok hx
    | func f => simp only [evalS, Option.some.injEq] at hx; subst hx; rfl
    | global g => simp [evalS] at hx
theorem evalAll_frame : ∀ {os : List Operand}, (∀ l, l ∈ opLocs os → S' l = S l) → evalAll S' os = evalAll S os := by
  intro os
  induction os with
  | nil => intro _; rfl
  | cons o os ih =>
    intro h
    cases o with
    | tmp t =>
      simp only [opLocs] at h
      simp only [evalAll, evalS]
      rw [h (0, t) (by simp), ih fun l hl => h l (List.mem_cons_of_mem _ hl)]
    | const v => simp only [evalAll, evalS]; rw [ih h]
    | func f => simp only [evalAll, evalS]; rw [ih h]
    | global g => simp only [evalAll, evalS]; rfl
theorem gcond_frame {o : Oper} (h : ∀ l, l ∈ gLocs ops o → S' l = S l) : gcond ops S' o = gcond ops S o := by
  unfold gcond
  cases hg : o.guard with
  | none => rfl
  | some q =>
    obtain ⟨j, want⟩ := q
    simp only
    cases hd : gTmp ops j with
    | none => rfl
    | some d =>
      simp only
      rw [h (0, d) (by simp [gLocs, hg, hd])]
theorem polE_ok (want : Bool) (e : E) : ((polE want e).den ρ).B = ((e.den ρ).B == want) := by
  cases want <;> simp [polE, E.den, O1.ev]
theorem gcond_ok (hM : Mt C ρ p S a w) {o : Oper} {g : E} (h : gcond ops S o = some g) : Region.wanted o (yielded ops a.tmps) = (g.den ρ).B := by
  unfold gcond at h
  unfold Region.wanted
  cases hg : o.guard with
  | none => rw [hg] at h; simp only [Option.some.injEq] at h; subst h; rfl
  | some q =>
    obtain ⟨j, want⟩ := q
    rw [hg] at h
    simp only at h ⊢
    cases hd : gTmp ops j with
    | none => rw [hd] at h; simp at h
    | some d =>
      rw [hd] at h
      simp only at h
      have hd' : (ops[j]?).bind (·.dst) = some d := hd
      have key : ∀ b, a.tmps.getD d Go.undef = .bool b → yielded ops a.tmps j = some b := by
        intro b hb
        unfold yielded
        rw [hd']
        simp only [Option.bind_some]
        rw [Array.getD_eq_getD_getElem?] at hb
        cases ht : a.tmps[d]? with
        | none => rw [ht] at hb; simp [Go.undef] at hb
        | some x => rw [ht] at hb; simp only [Option.getD_some] at hb; subst hb; rfl
      have keyu : a.tmps.getD d Go.undef = Go.undef → yielded ops a.tmps j = none := by
        intro hb
        unfold yielded
        rw [hd']
        simp only [Option.bind_some]
        rw [Array.getD_eq_getD_getElem?] at hb
        cases ht : a.tmps[d]? with
        | none => rfl
        | some x => rw [ht] at hb; simp only [Option.getD_some] at hb; subst hb; rfl
      split at h
      · rename_i e hs
        simp only [Option.some.injEq] at h
        subst h
        have := hM.tmp d _ hs
        simp only [V2.rep, V1.rep, CV.rep, Col.rep, BC.rep] at this
        rw [key _ this, polE_ok]
        cases (e.den ρ).B <;> cases want <;> rfl
      · rename_i c e hs
        simp only [Option.some.injEq] at h
        subst h
        have := hM.tmp d _ hs
        simp only [V2.rep, V1.rep, CV.rep, Col.rep, BC.rep] at this
        simp only [E.den, O2.ev, LV.B_b, polE_ok]
        cases hc : (c.den ρ).B with
        | true =>
          rw [hc] at this
          simp only [if_true] at this
          rw [key _ this]
          cases (e.den ρ).B <;> cases want <;> rfl
        | false =>
          rw [hc] at this
          simp only [Bool.false_eq_true, if_false] at this
          rw [keyu this]
          cases want <;> rfl
      · rename_i hs
        simp only [Option.some.injEq] at h
        subst h
        have := hM.tmp d _ hs
        simp only [V2.rep] at this
        rw [keyu this]
        cases want <;> rfl
      · simp at h
theorem wrapG_ok {β : Blk} {g : E} {x z : V2} (h : wrapG g x = some z) (hg : (g.den ρ).B = true) {v : Value} (hx : x.rep ρ β w v) : z.rep ρ β w v := by
  unfold wrapG at h
  split at h
  · simp only [Option.some.injEq] at h; subst h; simp only [V2.rep, hg, if_true]; exact hx
  · simp only [Option.some.injEq] at h; subst h
    split
    · rename_i hi
      have hc := impS_ok hg _ _ hi
      simp only [V2.rep, hc, hg, if_true] at hx ⊢
      exact hx
    · simp only [V2.rep, E.den, O2.ev, LV.B_b, hg, Bool.true_and] at hx ⊢
      exact hx
  · simp only [Option.some.injEq] at h; subst h; exact hx
  · simp at h
theorem wrapG_no {β : Blk} {g : E} {x z : V2} (h : wrapG g x = some z) (hg : (g.den ρ).B = false) : z.rep ρ β w Go.undef := by
  unfold wrapG at h
  split at h
  · simp only [Option.some.injEq] at h; subst h; simp [V2.rep, hg]
  · simp only [Option.some.injEq] at h; subst h
    split
    · simp [V2.rep, hg]
    · simp [V2.rep, E.den, O2.ev, hg]
  · simp only [Option.some.injEq] at h; subst h; rfl
  · simp at h
theorem upd_append (r s : St) : upd S (r ++ s) = upd (upd S s) r := by
  funext l
  simp only [upd, look_append]
  cases look r l <;> rfl
theorem guardE_ok {g e : E} (h : ((guardE g e).den ρ).B = true) (hg : (g.den ρ).B = true) : (e.den ρ).B = true := by
  unfold guardE at h
  split at h
  · exact h
  · simpa [E.den, O2.ev, O1.ev, hg] using h
def BindsOk (Φ : Nat → List LV → List LV) (Pr : Nat → List LV → Prop) (ρ : Env) : Option (E × (Nat × List E × Nat × Nat)) → Prop
  | none => True
  | some (g, b) => BindOk Φ Pr ρ g (some b)
theorem resolve_ok {Φ : Nat → List LV → List LV} {Pr : Nat → List LV → Prop} (hcon : ∀ sg, sg ∈ T.sigs → ConOk T.P Φ Pr sg) (hnp : C.np = T.np ∧ C.ro = T.ro) {s n : Nat} {o : Oper} {R : Rs}
    (h : resolve T C.nt ops s n o S = some R) (hM : Mt C ρ p S a w) (hn : ∀ e, e ∈ R.needs → (e.den ρ).B = true) (hb : BindsOk Φ Pr ρ R.bind)
    {K : Act → World → Prop} {Q : Exit → Act → World → Prop} (hK : ∀ p' v w', Mt C ρ p' (upd S R.writes) (a.put o.dst v) w' → K (a.put o.dst v) w') :
    if Region.wanted o (yielded ops a.tmps) then o.wp T.P a w K Q else K (a.put o.dst Go.undef) w := by
  simp only [resolve, Option.bind_eq_some_iff] at h
  obtain ⟨g, hg, xs, hxs, A, hA, z, hz, h⟩ := h
  split at h
  case isFalse => simp at h
  rename_i hd
  simp only [Option.some.injEq] at h
  subst h
  have hdst : ∀ t, o.dst = some t → t < C.nt := fun t ht => by rw [ht] at hd; exact of_decide_eq_true hd
  rw [gcond_ok hM hg]
  rw [upd_append] at hK
  cases hgb : (g.den ρ).B with
  | true =>
    rw [if_pos rfl]
    refine act_ok hcon hnp hA hM hgb (fun e he => guardE_ok (hn _ (List.mem_map_of_mem he)) hgb) ?_ (evalAll_ok hM hxs) hdst z ?_ hK
    · cases hbd : A.bind with
      | none => trivial
      | some b => simp only [hbd, Option.map_some, BindsOk] at hb; exact hb
    · intro β w v hv
      unfold lastVal at hz
      split at hz
      · simp only [Option.some.injEq] at hz; subst hz; exact hv
      · split at hz
        · exact wrapG_ok hz hgb hv
        · simp at hz
  | false =>
    rw [if_neg (by simp)]
    unfold lastVal at hz
    split at hz
    · rename_i hgn
      simp only [gcond, hgn, Option.some.injEq] at hg
      subst hg
      simp [E.den] at hgb
    · split at hz
      · rename_i hws
        have hws : A.ws = [] := List.isEmpty_iff.1 hws
        have h0 : upd S [] = S := by funext l; rfl
        refine hK p Go.undef w ?_
        rw [hws, h0]
        exact hM.pure o.dst z Go.undef hdst (wrapG_no hz hgb)
      · simp at hz
theorem resolve_frame {s n nt : Nat} {o : Oper} {R : Rs} (h : resolve T nt ops s n o S = some R) (hS : ∀ l, l ∈ R.reads → S' l = S l) : resolve T nt ops s n o S' = some R := by
  have h' := h
  simp only [resolve, Option.bind_eq_some_iff] at h
  obtain ⟨g, hg, xs, hxs, A, hA, z, hz, h⟩ := h
  split at h
  case isFalse => simp at h
  rename_i hd
  simp only [Option.some.injEq] at h
  subst h
  simp only [List.mem_append] at hS
  have e1 : gcond ops S' o = gcond ops S o := gcond_frame fun l hl => hS l (.inl hl)
  have e2 : evalAll S' o.op.operands.toList = evalAll S o.op.operands.toList := evalAll_frame fun l hl => hS l (.inr (.inl hl))
  have e3 : (cellReads T s o.op (xs.map (strip g))).map S' = (cellReads T s o.op (xs.map (strip g))).map S := List.map_congr_left fun l hl => hS l (.inr (.inr hl))
  rw [← h']
  simp only [resolve, e1, e2, hg, hxs, Option.bind_some, e3]
end

/-! ### A region in the order of the text -/
/-- The operations one by one: s, n: the next block's symbol and the next variable. -/
def lex (T : Set) (nt : Nat) (ops : Array Oper) : List Oper → Nat → Nat → St → Option (List Rs × Nat × Nat × St)
  | [], s, n, S => some ([], s, n, S)
  | o :: r, s, n, S => (resolve T nt ops s n o S.get).bind fun R =>
    (lex T nt ops r (s + 1) (match R.bind with
      | none => n
      | some (_, _, _, _, m) => n + m) (R.writes ++ S)).map fun q => (R :: q.1, q.2)
/-- Each result is what its operation comes to in the state that the ones before have left. -/
inductive Lex (T : Set) (nt : Nat) (ops : Array Oper) : List Oper → List Rs → Sm → Sm → Prop where
  | nil (S : Sm) : Lex T nt ops [] [] S S
  | cons {o : Oper} {r : List Oper} {R : Rs} {rs : List Rs} {S S' : Sm} {s n : Nat} (h : resolve T nt ops s n o S = some R) (t : Lex T nt ops r rs (upd S R.writes) S') : Lex T nt ops (o :: r) (R :: rs) S S'
theorem lex_ok {T : Set} {nt : Nat} {ops : Array Oper} : ∀ {os : List Oper} {s n s' n' : Nat} {S S' : St} {rs : List Rs}, lex T nt ops os s n S = some (rs, s', n', S') → Lex T nt ops os rs S.get S'.get := by
  intro os
  induction os with
  | nil => intro s n s' n' S S' rs h; simp only [lex, Option.some.injEq, Prod.mk.injEq] at h; obtain ⟨rfl, rfl, rfl, rfl⟩ := h; exact .nil _
  | cons o os ih =>
    intro s n s' n' S S' rs h
    simp only [lex, Option.bind_eq_some_iff, Option.map_eq_some_iff, Prod.mk.injEq] at h
    obtain ⟨R, hR, ⟨rs', q⟩, hr, rfl, rfl⟩ := h
    have := ih hr
    rw [St.get_append] at this
    exact .cons hR this
section
variable {T : Set} {C : Ctx} {ρ : Env} {ops : Array Oper}
theorem Lex.run {Φ : Nat → List LV → List LV} {Pr : Nat → List LV → Prop} (hcon : ∀ sg, sg ∈ T.sigs → ConOk T.P Φ Pr sg) (hnp : C.np = T.np ∧ C.ro = T.ro) {Q : Exit → Act → World → Prop} :
    ∀ {os : List Oper} {rs : List Rs} {S S' : Sm}, Lex T C.nt ops os rs S S' → (∀ R, R ∈ rs → (∀ e, e ∈ R.needs → (e.den ρ).B = true) ∧ BindsOk Φ Pr ρ R.bind) →
    (∀ p a w, Mt C ρ p S' a w → Q .normal a w) → ∀ p a w, Mt C ρ p S a w → wpList T.P ops Q os a w := by
  intro os rs S S' h
  induction h with
  | nil S => intro _ hQ p a w hM; exact hQ p a w hM
  | cons h t ih =>
    rename_i o r R rs S S' s n
    intro hall hQ p a w hM
    refine wpList_step fun K hK => ?_
    refine resolve_ok hcon hnp h hM (hall R (by simp)).1 (hall R (by simp)).2 ?_
    intro p' v w' hM'
    exact hK _ _ (ih (fun R hR => hall R (List.mem_cons_of_mem _ hR)) hQ p' _ w' hM')
end
end Go.Proofs.Ythhnnfmfeofknaa.Sy
