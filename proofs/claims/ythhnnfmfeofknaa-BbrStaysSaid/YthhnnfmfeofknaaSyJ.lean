/-
  A symbolic evaluator for the model's code, part J: what one operation of a region comes to, its guard with it.
-/
import Derived.Test.YthhnnfmfeofknaaSyI
namespace Go.Proofs.Ythhnnfmfeofknaa.Sy
open Go Go.RowKit
set_option linter.unusedSimpArgs false
set_option linter.unusedVariables false

/-- What stays the same in one function: the program, the contracts that may be used, the number of blocks that came in. -/
structure Set where
  P : Program
  sigs : List Sig
  np : Nat
  ro : List Nat

def findSig (sigs : List Sig) (f : Nat) (xs : List V2) : Option Sig :=
  match sigs with
  | [] => none
  | sg :: r => if sg.fid = f ∧ shapeOk sg.params xs = true then some sg else findSig r f xs
theorem findSig_ok {sigs : List Sig} {f : Nat} {xs : List V2} {sg : Sig} (h : findSig sigs f xs = some sg) : sg ∈ sigs ∧ sg.fid = f := by
  induction sigs with
  | nil => simp [findSig] at h
  | cons s r ih =>
    simp only [findSig] at h
    split at h
    · rename_i hc
      simp only [Option.some.injEq] at h
      subst h
      exact ⟨by simp, hc.1⟩
    · have := ih h
      exact ⟨List.mem_cons_of_mem _ this.1, this.2⟩
def cellReads (T : Set) (s : Nat) (op : Op) (xs : List V2) : List Loc :=
  match op with
  | .load t _ => (match xs with
    | .one (.cell (.ptr b o)) :: _ => (1, b) :: locs b o (T.P.cellsOf t)
    | _ => [])
  | .store t _ _ => (match xs with
    | .one (.cell (.ptr b o)) :: _ => (1, b) :: locs b o (T.P.cellsOf t)
    | _ => [])
  | .alloc _ => [(1, s)]
  | .box _ _ => [(1, s)]
  | .call { callee := .value _, .. } => (match xs with
    | .one (.cell (.fn f)) :: ys => (match findSig T.sigs f ys with
      | some sg => callReads sg.params ys
      | none => [])
    | _ => [])
  | _ => []
def mNew (T : Set) (g : E) (s : Nat) (cs : Option (List CV)) (mk : List (Option V2)) : Option Ac :=
  match cs, mk with
  | some zs, [none] => if g = .kb true ∧ T.np ≤ s then some ⟨.one (.cell (.ptr s 0)), ((1, s), some (mark zs.length)) :: wsOf s 0 zs, [], none⟩ else none
  | _, _ => none
def memOp (T : Set) (g : E) (s n : Nat) (op : Op) (xs : List V2) (cs : List (Option V2)) : Option Ac :=
  match op with
  | .load t _ => (match xs, cs with
    | [.one (.cell (.ptr _ o))], mk :: r => (mLoad T.P t o mk r).map fun x => ⟨x, [], [], none⟩
    | _, _ => none)
  | .store t _ _ => (match xs, cs with
    | [.one (.cell (.ptr b o)), .one x], mk :: r => if g = .kb true ∧ b ∉ T.ro then (mStore T.P t b o x mk r).map fun ws => ⟨.undef, ws, [], none⟩ else none
    | _, _ => none)
  | .alloc t => mNew T g s (zeroCVs T.P t) cs
  | .box _ _ => (match xs with
    | [.one x] => mNew T g s (some x.cvs) cs
    | _ => none)
  | .buildSlice t len ps => (mBuildSlice T.P t len (ps.toList.map (·.1)) xs).map fun x => ⟨x, [], [], none⟩
  | .call { callee := .builtin .append, argTypes := ts, .. } => (match xs with
    | [x, y] => (mAppend T.P ts.toList x y).map fun q => ⟨q.1, [], q.2, none⟩
    | _ => none)
  | .call { callee := .value _, .. } => (match xs with
    | .one (.cell (.fn f)) :: ys => (match findSig T.sigs f ys with
      | some sg => mCall T.ro sg n ys cs
      | none => none)
    | _ => none)
  | _ => none
def act (T : Set) (g : E) (s n : Nat) (op : Op) (xs0 : List V2) (cs : List (Option V2)) : Option Ac :=
  match pureOp T.P g op xs0 with
  | some (x, ns) => some ⟨x, [], ns, none⟩
  | none => memOp T g s n op (xs0.map (strip g)) cs

section
variable {T : Set} {C : Ctx} {ρ : Env} {p : Nat → Nat} {S : Sm} {a : Act} {w : World}
/-- What the environment must say of the bound results. -/
def BindOk (Φ : Nat → List LV → List LV) (Pr : Nat → List LV → Prop) (ρ : Env) (g : E) : Option (Nat × List E × Nat × Nat) → Prop
  | none => True
  | some (key, es, n, m) => (∀ i, i < m → ρ (n + i) = outOf (Φ key (es.map (·.den ρ))) i) ∧ ((g.den ρ).B = true → Pr key (es.map (·.den ρ)))
theorem act_ok {Φ : Nat → List LV → List LV} {Pr : Nat → List LV → Prop} (hcon : ∀ sg, sg ∈ T.sigs → ConOk T.P Φ Pr sg) (hnp : C.np = T.np ∧ C.ro = T.ro) {g : E} {s n : Nat} {o : Oper} {xs0 : List V2} {A : Ac}
    (h : act T g s n o.op xs0 ((cellReads T s o.op (xs0.map (strip g))).map S) = some A) (hM : Mt C ρ p S a w) (hg : (g.den ρ).B = true) (hn : ∀ e, e ∈ A.needs → (e.den ρ).B = true)
    (hb : BindOk Φ Pr ρ g A.bind) (hx0 : All2 (V2.rep ρ (blk C.av p S) w) xs0 (o.op.operands.toList.map a.eval)) (hd : ∀ t, o.dst = some t → t < C.nt) (z : V2) (hz : ∀ β w v, A.val.rep ρ β w v → z.rep ρ β w v)
    {K : Act → World → Prop} {Q : Exit → Act → World → Prop} (hK : ∀ p' v w', Mt C ρ p' (upd (upd S A.ws) (dw o.dst z)) (a.put o.dst v) w' → K (a.put o.dst v) w') : o.wp T.P a w K Q := by
  unfold act at h
  cases hp : pureOp T.P g o.op xs0 with
  | some q =>
    obtain ⟨x, ns⟩ := q
    rw [hp] at h
    simp only [Option.some.injEq] at h
    subst h
    obtain ⟨v, hv, hr⟩ := pureOp_ok hp hg hn a hx0
    refine wp_value hv (hK p v w ?_)
    have h0 : upd S [] = S := by funext l; rfl
    rw [h0]
    exact hM.pure o.dst z v hd (hz _ _ _ hr)
  | none =>
    rw [hp] at h
    simp only at h
    have hx : All2 (V2.rep ρ (blk C.av p S) w) (xs0.map (strip g)) (o.op.operands.toList.map a.eval) := hx0.mapl fun x y hr => strip_ok hg hr
    obtain ⟨dst, op, type, pos, after, guard⟩ := o
    simp only at h hx hd hK
    unfold memOp cellReads at h
    clear hp hx0
    split at h
    · rename_i t ad
      split at h
      · rename_i b o mk r hxs hcs
        rw [hxs] at hcs
        simp only [List.map_cons, List.cons.injEq] at hcs
        obtain ⟨rfl, rfl⟩ := hcs
        simp only [Option.map_eq_some_iff] at h
        obtain ⟨x, hx1, rfl⟩ := h
        rw [hxs] at hx
        cases hx with
        | cons h1 h2 =>
          obtain ⟨hl, hv⟩ := h1
          obtain ⟨v, hrun, hr⟩ := mLoad_ok hM hx1
          refine wp_value (v := v) (w' := w) (by simp only [execOp, hv, Sem.run_bind]; simp only [blk]; rw [hrun]; rfl) (hK p v w ?_)
          have h0 : upd S [] = S := by funext l; rfl
          rw [h0]
          exact hM.pure dst z v hd (hz _ _ _ hr)
      · simp at h
    · rename_i t ad vl
      split at h
      · rename_i b o x mk r hxs hcs
        rw [hxs] at hcs
        simp only [List.map_cons, List.cons.injEq] at hcs
        obtain ⟨rfl, rfl⟩ := hcs
        split at h
        · rename_i hgr
          simp only [Option.map_eq_some_iff] at h
          obtain ⟨ws, hws, rfl⟩ := h
          rw [hxs] at hx
          cases hx with
          | cons h1 h2 =>
            cases h2 with
            | cons h2 h3 =>
              obtain ⟨hl, hv⟩ := h1
              obtain ⟨w', hrun, hstep⟩ := mStore_ok hM hws (by rw [hnp.2]; exact hgr.2) h2
              refine wp_skip' (w' := w') (by simp only [execOp, hv, Sem.run_bind]; simp only [blk]; rw [hrun]; rfl) (hK p _ w' ?_)
              exact hstep dst z Go.undef hd (fun w β => hz β w _ rfl)
        · simp at h
      · simp at h
    · rename_i t
      unfold mNew at h
      split at h
      · rename_i zs hzs hmk
        split at h
        · rename_i hc
          simp only [Option.some.injEq] at h
          subst h
          simp only [List.map_cons, List.map_nil, List.cons.injEq, and_true] at hmk
          obtain ⟨zv, hzv, _, hzr⟩ := zeroCVs_ok (ρ := ρ) (β := blk C.av p S) (w := w) hzs
          obtain ⟨p', hp'⟩ := new_ok (d := dst) (z := z) hM hmk (by rw [hnp.1]; exact hc.2) hzr t hd (fun β w' h1 h2 => hz β w' _ ⟨h1, by rw [h2]⟩)
          refine wp_value (v := .pointer (some ⟨w.heap.size, 0, none⟩)) (w' := w.alloc (.cells zv.cells.toList.toArray t)) ?_ (hK p' _ _ hp')
          simp only [execOp, Instr.alloc, Sem.run_bind, hzv, Result.andThen_ok, newVar, newRow]
          rfl
        · simp at h
      · simp at h
    · rename_i t vl
      split at h
      · rename_i x hxs
        unfold mNew at h
        split at h
        · rename_i zs hzs hmk
          split at h
          · rename_i hc
            simp only [Option.some.injEq] at h hzs
            subst h
            subst hzs
            simp only [List.map_cons, List.map_nil, List.cons.injEq, and_true] at hmk
            rw [hxs] at hx
            cases hx with
            | cons h1 h2 =>
              have hcv := V1.cells_ok h1
              obtain ⟨p', hp'⟩ := new_ok (d := dst) (z := z) hM hmk (by rw [hnp.1]; exact hc.2) hcv t hd (fun β w' h1 h2 => hz β w' _ ⟨h1, by rw [h2]⟩)
              refine wp_value (v := .pointer (some ⟨w.heap.size, 0, none⟩)) (w' := w.alloc (.cells (a.eval vl).cells.toList.toArray t)) ?_ (hK p' _ _ hp')
              simp only [execOp, Instr.box, newVar, newRow, Sem.run_bind]
              rfl
          · simp at h
        · simp at h
      · simp at h
    · rename_i t len ps
      simp only [Option.map_eq_some_iff] at h
      obtain ⟨x, hxb, rfl⟩ := h
      have hops : (Op.buildSlice t len ps).operands.toList.map a.eval = ps.toList.map fun p => a.eval p.2 := by simp [Op.operands]
      rw [hops] at hx
      obtain ⟨v, w', hrun, hext, hsame, hr⟩ := mBuildSlice_ok hM hxb hx
      have : (ps.map fun (i, x) => (i, a.eval x)) = ((ps.toList.map (·.1)).zip (ps.toList.map fun p => a.eval p.2)).toArray := by
        rw [← zip_map]
        apply Array.ext'
        simp
      refine wp_value (v := v) (w' := w') (by simp only [execOp, this, Sem.run_bind, hrun, Result.andThen_ok, Sem.run_pure]) (hK p v w' ?_)
      have h0 : upd S [] = S := by funext l; rfl
      refine hM.step (p' := p) [] dst z v (fun l y hl => by simp [look] at hl) hd hext (fun b' _ hl' => hsame _ (hM.live b' hl').1) (fun _ _ => rfl) (fun _ _ => rfl) (fun b hb => by rw [h0]; exact hb) (fun b hb => .inl (by rw [h0] at hb; exact hb))
        (fun b b' hb hb' he => hM.inj b b' (by rw [h0] at hb; exact hb) (by rw [h0] at hb'; exact hb') he) (fun b o y m _ _ hl => by simp [look] at hl) (fun b q m hb _ _ _ => ?_) (by rw [h0]; exact hz _ _ _ hr)
      rw [h0] at hb
      have hlt := (hM.live b (by rw [hb]; rfl)).1
      exact ⟨hb, cell_of_heap (hsame _ hlt), frozen_of_heap (hsame _ hlt)⟩
    · rename_i ags ats
      split at h
      · rename_i x y hxs
        simp only [Option.map_eq_some_iff] at h
        obtain ⟨⟨z1, ns⟩, hap, rfl⟩ := h
        have hops : (Op.call { callee := .builtin .append, args := ags, argTypes := ats }).operands.toList.map a.eval = ags.toList.map a.eval := by simp [Op.operands, Call.operands]
        rw [hops, hxs] at hx
        cases hq : ags.toList with
        | nil => rw [hq] at hx; cases hx
        | cons y1 ys =>
          rw [hq] at hx
          cases hx with
          | cons h1 h2 =>
            cases ys with
            | nil => cases h2
            | cons y2 ys =>
              cases h2 with
              | cons h2 h3 =>
                have hys : ys = [] := by cases ys with
                  | nil => rfl
                  | cons _ _ => cases h3
                subst hys
                obtain ⟨v, w', hrun, hext, hsame, hr⟩ := mAppend_ok hM hap hn h1 h2 type
                have hags : ags = #[y1, y2] := by apply Array.ext'; simpa using hq
                subst hags
                have hats : ats.toList.toArray = ats := by simp
                rw [hats] at hrun
                refine wp_value (v := v) (w' := w') (by simp [execOp, resolve, invoke, builtin, hrun]) (hK p v w' ?_)
                have h0 : upd S [] = S := by funext l; rfl
                refine hM.step (p' := p) [] dst z v (fun l y hl => by simp [look] at hl) hd hext (fun b' _ hl' => hsame _ (hM.live b' hl').1) (fun _ _ => rfl) (fun _ _ => rfl) (fun b hb => by rw [h0]; exact hb) (fun b hb => .inl (by rw [h0] at hb; exact hb))
                  (fun b b' hb hb' he => hM.inj b b' (by rw [h0] at hb; exact hb) (by rw [h0] at hb'; exact hb') he) (fun b o y m _ _ hl => by simp [look] at hl) (fun b q m hb _ _ _ => ?_) (by rw [h0]; exact hz _ _ _ hr)
                rw [h0] at hb
                have hlt := (hM.live b (by rw [hb]; rfl)).1
                exact ⟨hb, cell_of_heap (hsame _ hlt), frozen_of_heap (hsame _ hlt)⟩
      · simp at h
    · rename_i fo ags ats
      split at h
      · rename_i f ys hxs
        rw [hxs] at h
        simp only at h
        split at h
        · rename_i sg hsg
          obtain ⟨hmem, hfid⟩ := findSig_ok hsg
          have hops : (Op.call { callee := .value fo, args := ags, argTypes := ats }).operands.toList.map a.eval = a.eval fo :: ags.toList.map a.eval := by simp [Op.operands, Call.operands]
          rw [hops, hxs] at hx
          cases hx with
          | cons h1 h2 =>
            simp only [V2.rep, V1.rep, CV.rep] at h1
            have hcon' := hcon sg hmem
            cases hbd : A.bind with
            | none =>
              unfold mCall at h
              split at h
              · split at h
                · simp only [Option.some.injEq] at h; subst h; simp at hbd
                · simp at h
              · simp at h
            | some bd =>
              obtain ⟨key, es, n', m⟩ := bd
              rw [hbd] at hb
              have hcalls := mCall_ok (ρ := ρ) (Φ := Φ) (Pr := Pr) hM (by rw [hnp.2]; exact h) hbd h2 hcon' hb.1 (hb.2 hg)
              unfold Oper.wp
              have hrun : (execOp a.eval { dst := dst, op := .call { callee := .value fo, args := ags, argTypes := ats }, type := type, pos := pos, after := after, guard := guard }).run T.P w = .ok (.enter sg.fid (ags.toList.map a.eval).toArray) w := by
                have e1 : (ags.toList.map a.eval).toArray = ags.map a.eval := by apply Array.ext'; simp
                simp only [execOp, resolve, h1, Deferred.ofValue, Sem.run_bind, Sem.run_pure, Result.andThen_ok, invoke]
                rw [e1]
                have e2 : (#[] : Array Value) ++ ags.map a.eval ++ #[] = ags.map a.eval := by simp
                rw [e2, ← hfid]
                exact hcon'.enters _ _
              rw [hrun]
              simp only [Oper.upon]
              refine hcalls.mono ?_
              rintro e w' ⟨v, rfl, hv⟩
              exact hK p v w' (hv dst z hd (fun β w => hz β w v))
        · simp at h
      · simp at h
    · simp at h
end
end Go.Proofs.Ythhnnfmfeofknaa.Sy
