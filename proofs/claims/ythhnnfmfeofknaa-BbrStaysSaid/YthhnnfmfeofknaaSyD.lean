/-
  A symbolic evaluator for the model's code, part D: the operations that only compute, all of them in one function.
-/
import Derived.Test.YthhnnfmfeofknaaSyC
import Derived.Laws.StructEq
import Derived.Laws.Tables
import Derived.ChangeKeysEq
namespace Go.Proofs.Ythhnnfmfeofknaa.Sy
open Go Go.RowKit
set_option linter.unusedSimpArgs false
set_option linter.unusedVariables false

section
variable {P : Program} {ρ : Env} {β : Blk} {w : World}

/-! ### Picking -/
def pPick (g : E) (c a b : V2) : Option (V2 × List E) :=
  match strip g c with
  | .one (.cell (.ex (.base .bool) e)) => (V2.merge e (strip (.op2 .and g e) a) (strip (.op2 .and g (.op1 .not e)) b)).map fun z => (z, [])
  | _ => none
theorem pPick_ok {g : E} {c a b z : V2} {ns : List E} (h : pPick g c a b = some (z, ns)) (hg : (g.den ρ).B = true) {vc va vb : Value}
    (hc : c.rep ρ β w vc) (ha : a.rep ρ β w va) (hb : b.rep ρ β w vb) : ∃ t, vc = .bool t ∧ z.rep ρ β w (if t then va else vb) := by
  unfold pPick at h
  have hc' := strip_ok hg hc
  split at h
  · rename_i e he
    rw [he] at hc'
    simp only [Option.map_eq_some_iff, Prod.mk.injEq] at h
    obtain ⟨z', hz, rfl, _⟩ := h
    refine ⟨(e.den ρ).B, hc', ?_⟩
    refine V2.merge_ok hz ?_
    cases ht : (e.den ρ).B with
    | true =>
      simp only [if_true]
      exact strip_ok (by simp only [E.den, O2.ev, LV.B_b, hg, ht, Bool.and_true]) ha
    | false =>
      simp only [Bool.false_eq_true, if_false]
      exact strip_ok (by simp only [E.den, O2.ev, O1.ev, LV.B_b, hg, ht, Bool.not_false, Bool.and_true]) hb
  · simp at h

/-! ### Equality of structs of numbers and bools -/
def eqFs (P : Program) (aa bs : List CV) : List Field → Option E
  | [] => some (.kb true)
  | f :: fs =>
    if f.name = "_" then none else
    match P.underlying f.type, aa[f.offset]?, bs[f.offset]? with
    | some (.int _), some (.ex (.base (.int k)) a), some (.ex (.base (.int k')) b) => if k = k' then (eqFs P aa bs fs).map fun e => .op2 .and (.op2 .eq a b) e else none
    | some .bool, some (.ex (.base .bool) a), some (.ex (.base .bool) b) => (eqFs P aa bs fs).map fun e => .op2 .and (.op2 .eqb a b) e
    | _, _, _ => none
theorem run_part_cell {t : TypeId} {d : TypeDesc} (hd : P.underlying t = some d) (hn : (match d with | .struct _ => false | .array _ _ => false | _ => true) = true) {xs : Array Value} {off : Nat} {v : Value} (hx : xs[off]? = some v) : (part t xs off).run P w = .ok v w := by
  cases d <;> first | (simp at hn; done) | simp [part, isAgg, run_underlying hd, hx]
theorem eqFs_ok {aa bs : List CV} {us vs : List Value} (ha : All2 (CV.rep ρ β w) aa us) (hb : All2 (CV.rep ρ β w) bs vs) (d : Nat) : ∀ (fs : List Field) (e : E), eqFs P aa bs fs = some e →
    (Op.eqFields (d + 1) us.toArray vs.toArray fs).run P w = .ok (e.den ρ).B w := by
  intro fs
  induction fs with
  | nil => intro e h; simp only [eqFs, Option.some.injEq] at h; subst h; rfl
  | cons f fs ih =>
    intro e h
    simp only [eqFs] at h
    split at h
    · simp at h
    rename_i hname
    split at h
    · rename_i q1 k a k' b hu h1 h2
      split at h
      · rename_i hk
        subst hk
        simp only [Option.map_eq_some_iff] at h
        obtain ⟨e', he, rfl⟩ := h
        obtain ⟨x, hx, hxr⟩ := ha.get h1
        obtain ⟨y, hy, hyr⟩ := hb.get h2
        simp only [CV.rep, Col.rep, BC.rep] at hxr hyr
        subst hxr hyr
        have p1 : (part f.type us.toArray f.offset).run P w = .ok (.int k (a.den ρ).I) w := run_part_cell hu rfl (by simpa using hx)
        have p2 : (part f.type vs.toArray f.offset).run P w = .ok (.int k (b.den ρ).I) w := run_part_cell hu rfl (by simpa using hy)
        have p3 := run_equalIn_int w d f.type k _ (a.den ρ).I (b.den ρ).I hu
        simp only [Op.eqFields, ne_eq, hname, not_false_eq_true, if_true, Sem.run_bind, p1, p2, p3, Result.andThen_ok, Sem.run_ite]
        have := ih e' he
        by_cases hab : (a.den ρ).I = (b.den ρ).I
        · simp [hab, this, E.den, O2.ev]
        · simp [hab, E.den, O2.ev]
      · simp at h
    · rename_i a b hu h1 h2
      simp only [Option.map_eq_some_iff] at h
      obtain ⟨e', he, rfl⟩ := h
      obtain ⟨x, hx, hxr⟩ := ha.get h1
      obtain ⟨y, hy, hyr⟩ := hb.get h2
      simp only [CV.rep, Col.rep, BC.rep] at hxr hyr
      subst hxr hyr
      have p1 : (part f.type us.toArray f.offset).run P w = .ok (.bool (a.den ρ).B) w := run_part_cell hu rfl (by simpa using hx)
      have p2 : (part f.type vs.toArray f.offset).run P w = .ok (.bool (b.den ρ).B) w := run_part_cell hu rfl (by simpa using hy)
      have p3 := run_equalIn_bool w d f.type (a.den ρ).B (b.den ρ).B hu
      simp only [Op.eqFields, ne_eq, hname, not_false_eq_true, if_true, Sem.run_bind, p1, p2, p3, Result.andThen_ok, Sem.run_ite]
      have := ih e' he
      cases h1 : (a.den ρ).B <;> cases h2 : (b.den ρ).B <;> simp [h1, h2, this, E.den, O2.ev]
    · simp at h
def eqAgg (P : Program) (t : TypeId) (aa bs : List CV) : Option E :=
  match P.underlying t with
  | some (.struct fs) => if P.stoodInHeld t = false ∧ P.eqGuardType P.depth t = false then eqFs P aa bs fs.toList else none
  | _ => none
theorem eqAgg_ok {t : TypeId} {aa bs : List CV} {us vs : List Value} {e : E} (h : eqAgg P t aa bs = some e) (ha : All2 (CV.rep ρ β w) aa us) (hb : All2 (CV.rep ρ β w) bs vs) :
    P.eqGuardType P.depth t = false ∧ (Op.equalIn 10000 t (.agg us.toArray) (.agg vs.toArray)).run P w = .ok (e.den ρ).B w := by
  unfold eqAgg at h
  split at h
  · rename_i fs hu
    split at h
    · rename_i hc
      refine ⟨hc.2, ?_⟩
      have hf : P.fieldsOf t = fs := by simp [Program.fieldsOf, hu]
      rw [show (10000 : Nat) = 9998 + 1 + 1 from rfl, run_equalIn_struct w (9998 + 1) t _ _ (by rw [hf]; exact hu) hc.1, hf]
      exact eqFs_ok ha hb 9998 fs.toList e h
    · simp at h
  · simp at h

def pBin (P : Program) (op : BinOp) (t : TypeId) (x y : V2) : Option (V2 × List E) :=
  match x, y with
  | .one (.cell (.ex (.base (.int k)) a)), .one (.cell (.ex (.base (.int k')) b)) => (intBin op k k' a b).map fun z => (.one (.cell z.1), z.2)
  | .one (.cell (.ex (.base .bool) a)), .one (.cell (.ex (.base .bool) b)) =>
    (match P.underlying t with
    | some .bool => (match op with
      | .eql => some (.one (.cell (bool (.op2 .eqb a b))), [])
      | .neq => some (.one (.cell (bool (.op1 .not (.op2 .eqb a b)))), [])
      | _ => none)
    | _ => none)
  | .one (.agg aa), .one (.agg bs) =>
    (match op with
    | .eql => (eqAgg P t aa bs).map fun e => (.one (.cell (bool e)), [])
    | .neq => (eqAgg P t aa bs).map fun e => (.one (.cell (bool (.op1 .not e))), [])
    | _ => none)
  | _, _ => none
theorem pBin_ok {op : BinOp} {t : TypeId} {x y z : V2} {ns : List E} (h : pBin P op t x y = some (z, ns)) (hn : ∀ e, e ∈ ns → (e.den ρ).B = true) {vx vy : Value}
    (hx : x.rep ρ β w vx) (hy : y.rep ρ β w vy) (ox oy : Operand) :
    ∃ v, (do eqGuard op t ox oy vx vy; binOp op t vx vy).run P w = .ok v w ∧ z.rep ρ β w v := by
  unfold pBin at h
  split at h
  · rename_i k a k' b
    simp only [Option.map_eq_some_iff, Prod.mk.injEq] at h
    obtain ⟨⟨c, ns'⟩, hc, rfl, rfl⟩ := h
    simp only [V2.rep, V1.rep, CV.rep, Col.rep, BC.rep] at hx hy
    subst hx hy
    obtain ⟨v, hv, hr⟩ := intBin_ok (P := P) (w := w) (β := β) hc hn t
    exact ⟨v, by simp only [Sem.run_bind, run_eqGuard_int, Result.andThen_ok, hv], hr⟩
  · rename_i a b
    simp only [V2.rep, V1.rep, CV.rep, Col.rep, BC.rep] at hx hy
    subst hx hy
    split at h
    · rename_i hu
      split at h
      · simp only [Option.some.injEq, Prod.mk.injEq] at h
        obtain ⟨rfl, rfl⟩ := h
        exact ⟨_, by simp only [Sem.run_bind, run_eqGuard_bool, Result.andThen_ok, run_eql_bool w t _ _ hu]; rfl, rfl⟩
      · simp only [Option.some.injEq, Prod.mk.injEq] at h
        obtain ⟨rfl, rfl⟩ := h
        exact ⟨_, by simp only [Sem.run_bind, run_eqGuard_bool, Result.andThen_ok, run_neq_bool w t _ _ hu]; rfl, rfl⟩
      · simp at h
    · simp at h
  · rename_i aa bs
    obtain ⟨us, rfl, hus⟩ := hx
    obtain ⟨vs, rfl, hvs⟩ := hy
    split at h
    · simp only [Option.map_eq_some_iff, Prod.mk.injEq] at h
      obtain ⟨e, he, rfl, rfl⟩ := h
      obtain ⟨h1, h2⟩ := eqAgg_ok he hus hvs
      exact ⟨_, by simp only [Sem.run_bind, run_eqGuard_agg w _ t ox oy _ _ h1, Result.andThen_ok, run_eql_struct w t, h2], rfl⟩
    · simp only [Option.map_eq_some_iff, Prod.mk.injEq] at h
      obtain ⟨e, he, rfl, rfl⟩ := h
      obtain ⟨h1, h2⟩ := eqAgg_ok he hus hvs
      exact ⟨_, by simp only [Sem.run_bind, run_eqGuard_agg w _ t ox oy _ _ h1, Result.andThen_ok, run_neq_struct w t, h2]; rfl, rfl⟩
    · simp at h
  · simp at h

/-! ### Types -/
def flatOpt {α : Type} : List (Option (List α)) → Option (List α)
  | [] => some []
  | none :: _ => none
  | some x :: r => (flatOpt r).map fun y => x ++ y
def asBase : List Col → Option (List BC)
  | [] => some []
  | .base c :: r => (asBase r).map fun cs => c :: cs
  | _ :: _ => none
def colsOf (P : Program) : Nat → TypeId → Option (List Col)
  | 0, _ => none
  | n + 1, t => match P.underlying t with
    | some (.int k) => some [.base (.int k)]
    | some .bool => some [.base .bool]
    | some (.slice e) => ((colsOf P n e).bind asBase).map fun cs => [.sl cs]
    | some (.struct fs) => flatOpt (fs.toList.map fun f => colsOf P n f.type)
    | some .string | some (.pointer _) | some (.func _ _ _) | some (.map _ _) => some [.base .opq]
    | _ => none
def constCV : Col → Value → Option CV
  | .base (.int k), .int k' n => if k = k' then some (int k (.ki n)) else none
  | .base .bool, .bool b => some (bool (.kb b))
  | .sl cols, .slice none 0 0 => some (.ex (.sl cols) .lnil)
  | .base .opq, .pointer none => some .nilp
  | _, _ => none
theorem sl_nil (cols : List BC) : SlRep w β.avoid cols [] (.slice none 0 0) :=
  ⟨none, 0, rfl, Nat.le_refl _, by simp, by simp, fun h => absurd rfl h⟩
theorem constCV_ok {c : Col} {v : Value} {x : CV} (h : constCV c v = some x) : x.rep ρ β w v := by
  unfold constCV at h
  split at h
  · split at h
    · rename_i hk; subst hk; simp only [Option.some.injEq] at h; subst h; rfl
    · simp at h
  · simp only [Option.some.injEq] at h; subst h; rfl
  · simp only [Option.some.injEq] at h; subst h; exact sl_nil _
  · simp only [Option.some.injEq] at h; subst h; rfl
  · simp at h
def constCVs : List Col → List Value → Option (List CV)
  | [], [] => some []
  | c :: cs, v :: vs => (constCV c v).bind fun x => (constCVs cs vs).map fun xs => x :: xs
  | _, _ => none
theorem constCVs_ok : ∀ {cs : List Col} {vs : List Value} {xs : List CV}, constCVs cs vs = some xs → All2 (CV.rep ρ β w) xs vs := by
  intro cs
  induction cs with
  | nil => intro vs xs h; cases vs <;> simp [constCVs] at h; subst h; exact .nil
  | cons c cs ih =>
    intro vs xs h
    cases vs with
    | nil => simp [constCVs] at h
    | cons v vs =>
      simp only [constCVs, Option.bind_eq_some_iff, Option.map_eq_some_iff] at h
      obtain ⟨x, hx, xs', hxs, rfl⟩ := h
      exact .cons (constCV_ok hx) (ih hxs)
def zeroCVs (P : Program) (t : TypeId) : Option (List CV) :=
  match P.info? t with
  | some i => (match i.zero with
    | some z => (colsOf P 12 t).bind fun cs => constCVs cs z.cells.toList
    | none => none)
  | none => none
theorem zeroCVs_ok {t : TypeId} {xs : List CV} (h : zeroCVs P t = some xs) : ∃ z, (zeroValue t).run P w = .ok z w ∧ (∃ i, P.info? t = some i ∧ i.zero = some z) ∧ All2 (CV.rep ρ β w) xs z.cells.toList := by
  unfold zeroCVs at h
  split at h
  · rename_i i hi
    split at h
    · rename_i z hz
      simp only [Option.bind_eq_some_iff] at h
      obtain ⟨cs, _, h2⟩ := h
      exact ⟨z, by simp [zeroValue, typeInfo, hi, hz], ⟨i, hi, hz⟩, constCVs_ok h2⟩
    · simp at h
  · simp at h

/-! ### Filling the parts of a struct -/
def V1.cvs : V1 → List CV
  | .cell c => [c]
  | .agg cs => cs
theorem V1.cells_ok {x : V1} {v : Value} (h : x.rep ρ β w v) : All2 (CV.rep ρ β w) x.cvs v.cells.toList := by
  cases x with
  | cell c =>
    have h1 := CV.oneCell h
    have : v.cells = #[v] := by cases v <;> first | (simp [Value.oneCell'] at h1; done) | rfl
    rw [this]
    exact .cons h .nil
  | agg cs =>
    obtain ⟨us, rfl, h2⟩ := h
    simpa [Value.cells, V1.cvs] using h2
def setAll (cs : List CV) (off : Nat) : List CV → List CV
  | [] => cs
  | c :: r => setAll (cs.set off c) (off + 1) r
theorem All2.set {α γ : Type} {R : α → γ → Prop} {xs : List α} {ys : List γ} (h : All2 R xs ys) (i : Nat) {x : α} {y : γ} (hr : R x y) : All2 R (xs.set i x) (ys.set i y) := by
  induction h generalizing i with
  | nil => exact .nil
  | cons h1 h2 ih =>
    cases i with
    | zero => exact .cons hr h2
    | succ i => exact .cons h1 (ih i)
theorem setAll_ok {new : List CV} {vs : List Value} (hn : All2 (CV.rep ρ β w) new vs) : ∀ (cs : List CV) (arr : Array Value) (off k : Nat), All2 (CV.rep ρ β w) cs arr.toList →
    All2 (CV.rep ρ β w) (setAll cs (off + k) new) ((vs.zipIdx k).foldl (fun cs (x : Value × Nat) => cs.setIfInBounds (off + x.2) x.1) arr).toList := by
  induction hn with
  | nil => intro cs arr off k h; simpa [setAll] using h
  | cons h1 h2 ih =>
    intro cs arr off k h
    simp only [setAll, List.zipIdx_cons, List.foldl_cons]
    have := ih (cs.set (off + k) _) (arr.setIfInBounds (off + k) _) off (k + 1) (by rw [Array.toList_setIfInBounds]; exact h.set _ h1)
    rwa [Nat.add_assoc off k 1]
def fillS (place : Nat → Option (Nat × Nat)) (cs : List CV) : List (Nat × V1) → Option (List CV)
  | [] => some cs
  | (i, x) :: rest => match place i with
    | none => none
    | some (off, size) => if x.cvs.length ≠ size ∨ off + x.cvs.length > cs.length then none else fillS place (setAll cs off x.cvs) rest
theorem setAll_length : ∀ (new cs : List CV) (off : Nat), (setAll cs off new).length = cs.length := by
  intro new
  induction new with
  | nil => intro cs off; rfl
  | cons c r ih => intro cs off; simp [setAll, ih]
theorem fillS_ok {place : Nat → Option (Nat × Nat)} : ∀ {parts : List (Nat × V1)} {vals : List (Nat × Value)} {cs zs : List CV} {arr : Array Value},
    All2 (fun p v => p.1 = v.1 ∧ p.2.rep ρ β w v.2) parts vals → fillS place cs parts = some zs → All2 (CV.rep ρ β w) cs arr.toList →
    ∃ cells, Instr.fill place arr vals = some cells ∧ All2 (CV.rep ρ β w) zs cells.toList := by
  intro parts
  induction parts with
  | nil =>
    intro vals cs zs arr hp h hc
    cases hp
    simp only [fillS, Option.some.injEq] at h
    subst h
    exact ⟨arr, rfl, hc⟩
  | cons x rest ih =>
    intro vals cs zs arr hp h hc
    cases hp with
    | cons h1 h2 =>
      rename_i v vs
      obtain ⟨i, x⟩ := x
      obtain ⟨i', v⟩ := v
      simp only at h1
      obtain ⟨rfl, hr⟩ := h1
      simp only [fillS] at h
      cases hpl : place i with
      | none => simp [hpl] at h
      | some q =>
        obtain ⟨off, size⟩ := q
        simp only [hpl] at h
        split at h
        · simp at h
        · rename_i hcond
          have hcells := V1.cells_ok hr
          have hlen := hcells.length
          have hlen2 := hc.length
          simp only [Array.length_toList] at hlen hlen2
          have := setAll_ok hcells cs arr off 0 hc
          obtain ⟨cells, hf, ha⟩ := ih h2 h (by simpa using this)
          refine ⟨cells, ?_, ha⟩
          simp only [Instr.fill, hpl]
          have c1 : ¬ ((v.cells.size ≠ size || off + v.cells.size > arr.size) = true) := by
            simp only [Bool.or_eq_true, decide_eq_true_eq, ne_eq]
            omega
          rw [if_neg (by simpa using c1)]
          rw [← hf]
          congr 1
          rw [← Array.foldl_toList, Array.toList_zipIdx]
  done
def placesOf (P : Program) : List Field → Option (List (Nat × Nat))
  | [] => some []
  | f :: fs => match P.info? f.type with
    | some i => (placesOf P fs).map fun r => (f.offset, i.size) :: r
    | none => none
theorem placesOf_ok : ∀ {fs : List Field} {ps : List (Nat × Nat)}, placesOf P fs = some ps → fs.mapM (fun f => (P.info? f.type).map fun i => (f.offset, i.size)) = some ps := by
  intro fs
  induction fs with
  | nil => intro ps h; simp only [placesOf, Option.some.injEq] at h; subst h; rfl
  | cons f fs ih =>
    intro ps h
    simp only [placesOf] at h
    split at h
    · rename_i i hi
      simp only [Option.map_eq_some_iff] at h
      obtain ⟨r, hr, rfl⟩ := h
      simp [List.mapM_cons, hi, ih hr]
    · simp at h
def ones : List V2 → Option (List V1)
  | [] => some []
  | .one x :: r => (ones r).map fun xs => x :: xs
  | _ :: _ => none
theorem ones_ok : ∀ {xs : List V2} {ys : List V1} {vs : List Value}, ones xs = some ys → All2 (V2.rep ρ β w) xs vs → All2 (V1.rep ρ β w) ys vs := by
  intro xs
  induction xs with
  | nil => intro ys vs h ha; simp only [ones, Option.some.injEq] at h; subst h; cases ha; exact .nil
  | cons x xs ih =>
    intro ys vs h ha
    cases ha with
    | cons h1 h2 =>
      cases x <;> simp [ones] at h
      obtain ⟨r, hr, rfl⟩ := h
      exact .cons h1 (ih hr h2)
def pBuild (P : Program) (t : TypeId) (idx : List Nat) (xs : List V2) : Option (V2 × List E) :=
  match P.underlying t, zeroCVs P t, ones xs with
  | some (.struct fs), some zs, some ys => (match placesOf P fs.toList with
    | some ps => (fillS (fun i => ps.toArray[i]?) zs (idx.zip ys)).map fun cs => (.one (.agg cs), [])
    | none => none)
  | _, _, _ => none
theorem pBuild_ok {t : TypeId} {idx : List Nat} {xs : List V2} {z : V2} {ns : List E} (h : pBuild P t idx xs = some (z, ns)) {vs : List Value} (hx : All2 (V2.rep ρ β w) xs vs) :
    ∃ v, (Instr.build t (idx.zip vs).toArray).run P w = .ok v w ∧ z.rep ρ β w v := by
  unfold pBuild at h
  split at h
  · rename_i fs zs ys hu hz hy
    split at h
    · rename_i ps hps
      simp only [Option.map_eq_some_iff, Prod.mk.injEq] at h
      obtain ⟨cs, hcs, rfl, rfl⟩ := h
      obtain ⟨zv, hzv, ⟨i, hi, hi2⟩, hzc⟩ := zeroCVs_ok (ρ := ρ) (β := β) (w := w) hz
      have hy' := ones_ok hy hx
      have hparts : ∀ (idx : List Nat) (ys : List V1) (vs : List Value), All2 (V1.rep ρ β w) ys vs → All2 (fun (p : Nat × V1) (v : Nat × Value) => p.1 = v.1 ∧ p.2.rep ρ β w v.2) (idx.zip ys) (idx.zip vs) := by
        intro idx
        induction idx with
        | nil => intro ys vs _; exact .nil
        | cons i idx ih =>
          intro ys vs h
          cases h with
          | nil => exact .nil
          | cons h1 h2 => exact .cons ⟨rfl, h1⟩ (ih _ _ h2)
      obtain ⟨cells, hf, ha⟩ := fillS_ok (hparts idx ys vs hy') hcs hzc
      refine ⟨.agg cells, run_build w t _ cells ?_, cells.toList, by simp, ha⟩
      simp only [Program.built, hi, hu, hi2, placesOf_ok hps]
      exact hf
    · simp at h
  · simp at h
end
end Go.Proofs.Ythhnnfmfeofknaa.Sy
