/-
  A symbolic evaluator for the model's code, part F: one function for all operations that only compute.
-/
import Derived.Test.YthhnnfmfeofknaaSyE
namespace Go.Proofs.Ythhnnfmfeofknaa.Sy
open Go Go.RowKit
set_option linter.unusedSimpArgs false
set_option linter.unusedVariables false

section
variable {P : Program} {ρ : Env} {β : Blk} {w : World}

def pConvert (P : Program) (src dst : TypeId) (x : V2) : Option (V2 × List E) :=
  match x, P.underlying src, P.underlying dst with
  | .one (.cell (.ex (.base (.int _)) e)), some _, some (.int k) => some (.one (.cell (int k (.op1 (.wrap k) e))), [])
  | _, _, _ => none
theorem pConvert_ok {src dst : TypeId} {x z : V2} {ns : List E} (h : pConvert P src dst x = some (z, ns)) {v : Value} (hx : x.rep ρ β w v) : ∃ u, (convert src dst v).run P w = .ok u w ∧ z.rep ρ β w u := by
  unfold pConvert at h
  split at h
  · rename_i k e d k' hs hd
    simp only [Option.some.injEq, Prod.mk.injEq] at h
    obtain ⟨rfl, _⟩ := h
    simp only [V2.rep, V1.rep, CV.rep, Col.rep, BC.rep] at hx
    subst hx
    exact ⟨_, by simp only [convert, Sem.run_bind, run_underlying hs, run_underlying hd, Result.andThen_ok, Conv.intToInt, Sem.run_pure]; rfl, rfl⟩
  · simp at h
def pUn (op : UnOp) (x : V2) : Option (V2 × List E) :=
  match op, x with
  | .not, .one (.cell (.ex (.base .bool) e)) => some (.one (.cell (bool (.op1 .not e))), [])
  | .neg, .one (.cell (.ex (.base (.int k)) e)) => some (.one (.cell (int k (.op1 (.wrap k) (.op2 .sub (.ki 0) e)))), [])
  | _, _ => none
theorem pUn_ok {op : UnOp} {x z : V2} {ns : List E} (h : pUn op x = some (z, ns)) {v : Value} (hx : x.rep ρ β w v) : ∃ u, (Op.unary op v).run P w = .ok u w ∧ z.rep ρ β w u := by
  unfold pUn at h
  split at h
  · simp only [Option.some.injEq, Prod.mk.injEq] at h
    obtain ⟨rfl, _⟩ := h
    simp only [V2.rep, V1.rep, CV.rep, Col.rep, BC.rep] at hx
    subst hx
    exact ⟨_, rfl, rfl⟩
  · simp only [Option.some.injEq, Prod.mk.injEq] at h
    obtain ⟨rfl, _⟩ := h
    simp only [V2.rep, V1.rep, CV.rep, Col.rep, BC.rep] at hx
    subst hx
    exact ⟨_, rfl, rfl⟩
  · simp at h
def pExtract (ix : Nat) (x : V2) : Option (V2 × List E) :=
  match x with
  | .tup xs => (xs[ix]?).map fun y => (.one y, [])
  | _ => none
theorem pExtract_ok {ix : Nat} {x z : V2} {ns : List E} (h : pExtract ix x = some (z, ns)) {v : Value} (hx : x.rep ρ β w v) : ∃ u, (Instr.extract v ix).run P w = .ok u w ∧ z.rep ρ β w u := by
  unfold pExtract at h
  split at h
  · simp only [Option.map_eq_some_iff, Prod.mk.injEq] at h
    obtain ⟨y, hy, rfl, _⟩ := h
    obtain ⟨us, rfl, hus⟩ := hx
    obtain ⟨u, hu, hr⟩ := hus.get hy
    exact ⟨u, by simp [Instr.extract, hu], hr⟩
  · simp at h
def pNil (x : V2) : Option (V2 × List E) :=
  match x with
  | .one (.cell (.ptr b o)) => some (.one (.cell (.ptr b o)), [])
  | .one (.cell (.el c l i j)) => some (.one (.cell (.el c l i j)), [])
  | .one (.cell (.fn f)) => some (.one (.cell (.fn f)), [])
  | _ => none
def pLen (P : Program) (t : TypeId) (x : V2) : Option (V2 × List E) :=
  match P.underlying t, x with
  | some (.slice _), .one (.cell (.ex (.sl _) l)) => some (.one (.cell (int .i64 (.len l))), [])
  | _, _ => none
theorem pLen_ok {t ty : TypeId} {x z : V2} {ns : List E} (h : pLen P t x = some (z, ns)) {v : Value} (hx : x.rep ρ β w v) : ∃ u, (Builtin.len_ #[t] ty #[v]).run P w = .ok u w ∧ z.rep ρ β w u := by
  unfold pLen at h
  split at h
  · rename_i e cols l hu
    simp only [Option.some.injEq, Prod.mk.injEq] at h
    obtain ⟨rfl, _⟩ := h
    obtain ⟨a, cap, rfl, _⟩ := hx
    have he : P.elem t = e := by simp [Program.elem, hu]
    exact ⟨_, run_len_slice w t ty a _ cap (by rw [he]; exact hu), rfl⟩
  · simp at h
def pMM (mx : Bool) : V2 → List V2 → Option (V2 × List E)
  | x, [] => (match x with
    | .one (.cell (.ex (.base (.int k)) a)) => some (.one (.cell (int k a)), [])
    | _ => none)
  | x, y :: r => (match x, y with
    | .one (.cell (.ex (.base (.int k)) a)), .one (.cell (.ex (.base (.int _)) b)) => pMM mx (.one (.cell (int k (.op2 (if mx then .mx else .mn) a b)))) r
    | _, _ => none)
theorem pMM_ok (mx : Bool) : ∀ {r : List V2} {x z : V2} {ns : List E} {vs : List Value} {v : Value}, pMM mx x r = some (z, ns) → x.rep ρ β w v → All2 (V2.rep ρ β w) r vs →
    ∃ u, (vs.foldlM (if mx then Builtin.max2 else Builtin.min2) v).run P w = .ok u w ∧ z.rep ρ β w u := by
  intro r
  induction r with
  | nil =>
    intro x z ns vs v h hx hr
    cases hr
    simp only [pMM] at h
    split at h
    · simp only [Option.some.injEq, Prod.mk.injEq] at h
      obtain ⟨rfl, _⟩ := h
      exact ⟨v, rfl, hx⟩
    · simp at h
  | cons y r ih =>
    intro x z ns vs v h hx hr
    cases hr with
    | cons h1 h2 =>
      simp only [pMM] at h
      split at h
      · rename_i k a k' b
        simp only [V2.rep, V1.rep, CV.rep, Col.rep, BC.rep] at hx h1
        subst hx h1
        cases mx with
        | true =>
          have hrun : (Builtin.max2 (.int k (a.den ρ).I) (.int k' (b.den ρ).I)).run P w = .ok (.int k (max (a.den ρ).I (b.den ρ).I)) w := by
            simp only [Builtin.max2, Sem.run_pure]
            congr 2
            split <;> omega
          obtain ⟨u, hu, hz⟩ := ih (v := .int k (max (a.den ρ).I (b.den ρ).I)) h rfl h2
          exact ⟨u, by simp only [if_true, List.foldlM_cons, Sem.run_bind, hrun, Result.andThen_ok] at hu ⊢; exact hu, hz⟩
        | false =>
          have hrun : (Builtin.min2 (.int k (a.den ρ).I) (.int k' (b.den ρ).I)).run P w = .ok (.int k (min (a.den ρ).I (b.den ρ).I)) w := by
            simp only [Builtin.min2, Sem.run_pure]
            congr 2
            split <;> omega
          obtain ⟨u, hu, hz⟩ := ih (v := .int k (min (a.den ρ).I (b.den ρ).I)) h rfl h2
          exact ⟨u, by simp only [Bool.false_eq_true, if_false, List.foldlM_cons, Sem.run_bind, hrun, Result.andThen_ok] at hu ⊢; exact hu, hz⟩
      · simp at h

def arg1 {α : Type} (xs : List V2) (f : V2 → Option α) : Option α :=
  match xs with
  | [x] => f x
  | _ => none
def arg2 {α : Type} (xs : List V2) (f : V2 → V2 → Option α) : Option α :=
  match xs with
  | [x, y] => f x y
  | _ => none
def arg3 {α : Type} (xs : List V2) (f : V2 → V2 → V2 → Option α) : Option α :=
  match xs with
  | [x, y, z] => f x y z
  | _ => none
theorem arg1_ok {α : Type} {xs : List V2} {f : V2 → Option α} {z : α} (h : arg1 xs f = some z) : ∃ x, xs = [x] ∧ f x = some z := by
  unfold arg1 at h; split at h
  · exact ⟨_, rfl, h⟩
  · simp at h
theorem arg2_ok {α : Type} {xs : List V2} {f : V2 → V2 → Option α} {z : α} (h : arg2 xs f = some z) : ∃ x y, xs = [x, y] ∧ f x y = some z := by
  unfold arg2 at h; split at h
  · exact ⟨_, _, rfl, h⟩
  · simp at h
theorem arg3_ok {α : Type} {xs : List V2} {f : V2 → V2 → V2 → Option α} {z : α} (h : arg3 xs f = some z) : ∃ x y q, xs = [x, y, q] ∧ f x y q = some z := by
  unfold arg3 at h; split at h
  · exact ⟨_, _, _, rfl, h⟩
  · simp at h
def optHead (o : Option Operand) (xs : List V2) : Option V2 :=
  match o with
  | none => none
  | some _ => xs.head?
def optTail (o : Option Operand) (xs : List V2) : List V2 :=
  match o with
  | none => xs
  | some _ => xs.tail
def pureOp0 (P : Program) (g : E) (op : Op) (xs0 xs : List V2) : Option (V2 × List E) :=
  match op with
  | .move _ => arg1 xs0 fun x => some (x, [])
  | .assign _ => arg1 xs0 fun x => some (x, [])
  | .pick _ _ _ => arg3 xs0 fun c a b => pPick g c a b
  | .build t ps => pBuild P t (ps.toList.map (·.1)) xs
  | .nilCheck _ => arg1 xs pNil
  | .binOp o t _ _ _ => arg2 xs fun x y => pBin P o t x y
  | .unOp o _ _ => arg1 xs fun x => pUn o x
  | .convert s d _ => arg1 xs fun x => pConvert P s d x
  | .fieldAddr t _ f => arg1 xs fun x => pFieldAddr P t f x
  | .field t _ f => arg1 xs fun x => pField P t f x
  | .indexAddr t _ _ => arg2 xs fun x y => pIndexAddr P t x y
  | .load t _ => arg1 xs fun x => pLoadEl P t x
  | .extract _ ix => arg1 xs fun x => pExtract ix x
  | .slice t _ lo hi mx => (match xs with
    | x :: r => if (optTail mx (optTail hi (optTail lo r))) = [] then pSlice P t x (optHead lo r) (optHead hi (optTail lo r)) (optHead mx (optTail hi (optTail lo r))) else none
    | _ => none)
  | .makeFunc (.func f) first cap => if first.size = 0 ∧ cap.size = 0 then some (.one (.cell (.fn f)), []) else none
  | .call { callee := .builtin .len, argTypes := ts, .. } => (match ts.toList with
    | [t] => arg1 xs fun x => pLen P t x
    | _ => none)
  | .call { callee := .builtin .max, .. } => (match xs with
    | x :: r => pMM true x r
    | [] => none)
  | .call { callee := .builtin .min, .. } => (match xs with
    | x :: r => pMM false x r
    | [] => none)
  | _ => none

def pureOp (P : Program) (g : E) (op : Op) (xs0 : List V2) : Option (V2 × List E) := pureOp0 P g op xs0 (xs0.map (strip g))
theorem All2.mapl {α γ δ : Type} {R : α → γ → Prop} {R' : δ → γ → Prop} {f : α → δ} {xs : List α} {ys : List γ} (h : All2 R xs ys) (hf : ∀ x y, R x y → R' (f x) y) : All2 R' (xs.map f) ys := by
  induction h with
  | nil => exact .nil
  | cons h _ ih => exact .cons (hf _ _ h) ih
theorem zip_map {α : Type} (ps : List (Nat × α)) (f : α → Value) : ps.map (fun p => (p.1, f p.2)) = (ps.map (·.1)).zip (ps.map fun p => f p.2) := by
  induction ps with
  | nil => rfl
  | cons p ps ih => simp [ih]
theorem optSplit {o : Option Operand} {a : Act} {xs : List V2} {rest : List Value} (h : All2 (V2.rep ρ β w) xs ((o.toList.map a.eval) ++ rest)) :
    optRep ρ β w (optHead o xs) (o.map a.eval) ∧ All2 (V2.rep ρ β w) (optTail o xs) rest := by
  cases o with
  | none => exact ⟨trivial, by simpa [optTail] using h⟩
  | some x =>
    simp only [Option.toList_some, List.map_cons, List.map_nil, List.singleton_append] at h
    cases h with
    | cons h1 h2 => exact ⟨h1, h2⟩

theorem pureOp_ok {g : E} {o : Oper} {xs0 : List V2} {z : V2} {ns : List E} (h : pureOp P g o.op xs0 = some (z, ns)) (hg : (g.den ρ).B = true) (hn : ∀ e, e ∈ ns → (e.den ρ).B = true) (a : Act)
    (hx0 : All2 (V2.rep ρ β w) xs0 (o.op.operands.toList.map a.eval)) : ∃ v, (execOp a.eval o).run P w = .ok (.value v) w ∧ z.rep ρ β w v := by
  have hx : All2 (V2.rep ρ β w) (xs0.map (strip g)) (o.op.operands.toList.map a.eval) := hx0.mapl fun x y hr => strip_ok hg hr
  obtain ⟨dst, op, type, pos, after, guard⟩ := o
  simp only at h hx hx0
  unfold pureOp pureOp0 at h
  split at h
  · obtain ⟨x, rfl, he⟩ := arg1_ok h
    simp only [Option.some.injEq, Prod.mk.injEq] at he
    obtain ⟨rfl, _⟩ := he
    cases hx0 with
    | cons h1 h2 => exact ⟨_, rfl, h1⟩
  · obtain ⟨x, rfl, he⟩ := arg1_ok h
    simp only [Option.some.injEq, Prod.mk.injEq] at he
    obtain ⟨rfl, _⟩ := he
    cases hx0 with
    | cons h1 h2 => exact ⟨_, rfl, h1⟩
  · obtain ⟨c, x, y, rfl, he⟩ := arg3_ok h
    cases hx0 with
    | cons h1 h2 => cases h2 with
      | cons h2 h3 => cases h3 with
        | cons h3 h4 =>
          obtain ⟨t, ht, hr⟩ := pPick_ok he hg h1 h2 h3
          exact ⟨_, by simp [execOp, ht, asBool], hr⟩
  · rename_i t ps
    have hops : (Op.build t ps).operands.toList.map a.eval = ps.toList.map fun p => a.eval p.2 := by simp [Op.operands]
    rw [hops] at hx
    obtain ⟨v, hv, hr⟩ := pBuild_ok h hx
    refine ⟨v, ?_, hr⟩
    have : (ps.map fun (i, x) => (i, a.eval x)) = ((ps.toList.map (·.1)).zip (ps.toList.map fun p => a.eval p.2)).toArray := by
      rw [← zip_map]
      apply Array.ext'
      simp
    simp only [execOp, this, Sem.run_bind, hv, Result.andThen_ok, Sem.run_pure]
  · obtain ⟨x, hxs, he⟩ := arg1_ok h
    rw [hxs] at hx
    cases hx with
    | cons h1 h2 =>
      unfold pNil at he
      split at he
      · simp only [Option.some.injEq, Prod.mk.injEq] at he
        obtain ⟨rfl, _⟩ := he
        obtain ⟨hl, hv⟩ := h1
        exact ⟨_, by simp only [execOp, hv]; rfl, hl, rfl⟩
      · simp only [Option.some.injEq, Prod.mk.injEq] at he
        obtain ⟨rfl, _⟩ := he
        obtain ⟨q, off, hv, hrest⟩ := h1
        exact ⟨_, by simp only [execOp, hv]; rfl, q, off, rfl, hrest⟩
      · simp only [Option.some.injEq, Prod.mk.injEq] at he
        obtain ⟨rfl, _⟩ := he
        simp only [V2.rep, V1.rep, CV.rep] at h1
        exact ⟨_, by simp only [execOp, h1]; rfl, rfl⟩
      · simp at he
  · obtain ⟨x, y, hxs, he⟩ := arg2_ok h
    rw [hxs] at hx
    cases hx with
    | cons h1 h2 => cases h2 with
      | cons h2 h3 =>
        obtain ⟨v, hv, hr⟩ := pBin_ok (P := P) he hn h1 h2 _ _
        exact ⟨v, by simp only [execOp, Sem.run_bind] at hv ⊢; rw [hv]; rfl, hr⟩
  · obtain ⟨x, hxs, he⟩ := arg1_ok h
    rw [hxs] at hx
    cases hx with
    | cons h1 h2 =>
      obtain ⟨v, hv, hr⟩ := pUn_ok (P := P) he h1
      exact ⟨v, by simp only [execOp, Sem.run_bind]; rw [hv]; rfl, hr⟩
  · obtain ⟨x, hxs, he⟩ := arg1_ok h
    rw [hxs] at hx
    cases hx with
    | cons h1 h2 =>
      obtain ⟨v, hv, hr⟩ := pConvert_ok (P := P) he h1
      exact ⟨v, by simp only [execOp, Sem.run_bind]; rw [hv]; rfl, hr⟩
  · obtain ⟨x, hxs, he⟩ := arg1_ok h
    rw [hxs] at hx
    cases hx with
    | cons h1 h2 =>
      obtain ⟨v, hv, hr⟩ := pFieldAddr_ok (P := P) he h1
      exact ⟨v, by simp only [execOp, Sem.run_bind]; rw [hv]; rfl, hr⟩
  · obtain ⟨x, hxs, he⟩ := arg1_ok h
    rw [hxs] at hx
    cases hx with
    | cons h1 h2 =>
      obtain ⟨v, hv, hr⟩ := pField_ok (P := P) he h1
      exact ⟨v, by simp only [execOp, Sem.run_bind]; rw [hv]; rfl, hr⟩
  · obtain ⟨x, y, hxs, he⟩ := arg2_ok h
    rw [hxs] at hx
    cases hx with
    | cons h1 h2 => cases h2 with
      | cons h2 h3 =>
        obtain ⟨v, hv, hr⟩ := pIndexAddr_ok (P := P) he hn h1 h2
        exact ⟨v, by simp only [execOp, Sem.run_bind]; rw [hv]; rfl, hr⟩
  · obtain ⟨x, hxs, he⟩ := arg1_ok h
    rw [hxs] at hx
    cases hx with
    | cons h1 h2 =>
      obtain ⟨v, hv, hr⟩ := pLoadEl_ok (P := P) he h1
      exact ⟨v, by simp only [execOp, Sem.run_bind]; rw [hv]; rfl, hr⟩
  · obtain ⟨x, hxs, he⟩ := arg1_ok h
    rw [hxs] at hx
    cases hx with
    | cons h1 h2 =>
      obtain ⟨v, hv, hr⟩ := pExtract_ok (P := P) he h1
      exact ⟨v, by simp only [execOp, Sem.run_bind]; rw [hv]; rfl, hr⟩
  · rename_i t q lo hi mx
    split at h
    · rename_i x r hxs
      split at h
      · have hops : (Op.slice t q lo hi mx).operands.toList.map a.eval = a.eval q :: (lo.toList.map a.eval ++ (hi.toList.map a.eval ++ (mx.toList.map a.eval ++ []))) := by
          simp [Op.operands]
        rw [hops, hxs] at hx
        cases hx with
        | cons h1 h2 =>
          obtain ⟨r1, h3⟩ := optSplit h2
          obtain ⟨r2, h4⟩ := optSplit h3
          obtain ⟨r3, _⟩ := optSplit h4
          obtain ⟨v, hv, hr⟩ := pSlice_ok (P := P) h hn h1 r1 r2 r3
          exact ⟨v, by simp only [execOp, Sem.run_bind]; rw [hv]; rfl, hr⟩
      · simp at h
    · simp at h
  · rename_i f first cap
    split at h
    · rename_i hc
      simp only [Option.some.injEq, Prod.mk.injEq] at h
      obtain ⟨rfl, _⟩ := h
      have e1 : first = #[] := Array.eq_empty_of_size_eq_zero hc.1
      have e2 : cap = #[] := Array.eq_empty_of_size_eq_zero hc.2
      subst e1 e2
      exact ⟨.func (.func f) #[] #[], by simp [execOp, Instr.makeFunc], rfl⟩
    · simp at h
  · rename_i ts ags
    split at h
    · rename_i t hts
      obtain ⟨x, hxs, he⟩ := arg1_ok h
      have hl := hx.length
      rw [hxs] at hx
      have hts' : ags = #[t] := by apply Array.ext'; simpa using hts
      subst hts'
      have hops : (Op.call { callee := .builtin .len, args := ts, argTypes := #[t] }).operands.toList.map a.eval = ts.toList.map a.eval := by simp [Op.operands, Call.operands]
      rw [hops] at hx
      cases hq : ts.toList with
      | nil => rw [hq] at hx; cases hx
      | cons y ys =>
        rw [hq] at hx
        cases hx with
        | cons h1 h2 =>
          have hys : ys = [] := by cases ys with
            | nil => rfl
            | cons _ _ => cases h2
          subst hys
          have hts' : ts = #[y] := by apply Array.ext'; simpa using hq
          subst hts'
          obtain ⟨v, hv, hr⟩ := pLen_ok (P := P) (ty := type) he h1
          exact ⟨v, by simp [execOp, resolve, invoke, builtin, hv], hr⟩
    · simp at h
  · rename_i ts ags
    split at h
    · rename_i x r hxs
      rw [hxs] at hx
      have hops : (Op.call { callee := .builtin .max, args := ts, argTypes := ags }).operands.toList.map a.eval = ts.toList.map a.eval := by simp [Op.operands, Call.operands]
      rw [hops] at hx
      cases hq : ts.toList with
      | nil => rw [hq] at hx; cases hx
      | cons y ys =>
        rw [hq] at hx
        cases hx with
        | cons h1 h2 =>
          obtain ⟨v, hv, hr⟩ := pMM_ok (P := P) true h h1 h2
          have hts' : ts = (y :: ys).toArray := by apply Array.ext'; simpa using hq
          subst hts'
          exact ⟨v, by simp only [if_true] at hv; simp [execOp, resolve, invoke, builtin, Builtin.max_, hv], hr⟩
    · simp at h
  · rename_i ts ags
    split at h
    · rename_i x r hxs
      rw [hxs] at hx
      have hops : (Op.call { callee := .builtin .min, args := ts, argTypes := ags }).operands.toList.map a.eval = ts.toList.map a.eval := by simp [Op.operands, Call.operands]
      rw [hops] at hx
      cases hq : ts.toList with
      | nil => rw [hq] at hx; cases hx
      | cons y ys =>
        rw [hq] at hx
        cases hx with
        | cons h1 h2 =>
          obtain ⟨v, hv, hr⟩ := pMM_ok (P := P) false h h1 h2
          have hts' : ts = (y :: ys).toArray := by apply Array.ext'; simpa using hq
          subst hts'
          exact ⟨v, by simp only [Bool.false_eq_true, if_false] at hv; simp [execOp, resolve, invoke, builtin, Builtin.min_, hv], hr⟩
    · simp at h
  · simp at h
end
end Go.Proofs.Ythhnnfmfeofknaa.Sy
