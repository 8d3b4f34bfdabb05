/-
  A symbolic evaluator for the model's code, part C: operations that only compute.
-/
import Derived.Test.YthhnnfmfeofknaaSyB
namespace Go.Proofs.Ythhnnfmfeofknaa.Sy
open Go Go.RowKit
set_option linter.unusedSimpArgs false
set_option linter.unusedVariables false

/-! ### What follows from a test -/
def impBase (g e : E) (pol : Bool) : Bool := decide ((if pol then e else .op1 .not e) = g)
def imp (g : E) : E → Bool → Bool
  | .op2 o x y, pol => impBase g (.op2 o x y) pol || (match o with
      | .and => pol && (imp g x true || imp g y true)
      | .or => !pol && (imp g x false || imp g y false)
      | _ => false)
  | .op1 o x, pol => impBase g (.op1 o x) pol || (match o with
      | .not => imp g x (!pol)
      | _ => false)
  | e, pol => impBase g e pol
theorem impBase_ok {g e : E} {pol : Bool} {ρ : Env} (h : impBase g e pol = true) (he : (e.den ρ).B = pol) : (g.den ρ).B = true := by
  simp only [impBase, decide_eq_true_eq] at h
  subst h
  cases pol <;> simp [E.den, O1.ev, he]
theorem imp_ok {ρ : Env} (g : E) : ∀ (e : E) (pol : Bool), imp g e pol = true → (e.den ρ).B = pol → (g.den ρ).B = true := by
  intro e
  induction e with
  | op1 o a ia =>
    intro pol h he
    simp only [imp, Bool.or_eq_true] at h
    rcases h with h | h
    · exact impBase_ok h he
    · cases o with
      | not =>
        refine ia _ h ?_
        simp only [E.den, O1.ev, LV.B_b] at he
        rw [← he, Bool.not_not]
      | wrap k => simp at h
  | op2 o a b ia ib =>
    intro pol h he
    simp only [imp, Bool.or_eq_true] at h
    rcases h with h | h
    · exact impBase_ok h he
    · cases o <;> simp only [Bool.false_eq_true] at h
      · simp only [Bool.and_eq_true, Bool.or_eq_true] at h
        obtain ⟨rfl, h⟩ := h
        simp only [E.den, O2.ev, LV.B_b, Bool.and_eq_true] at he
        rcases h with h | h
        · exact ia _ h he.1
        · exact ib _ h he.2
      · simp only [Bool.and_eq_true, Bool.or_eq_true, Bool.not_eq_true'] at h
        obtain ⟨rfl, h⟩ := h
        simp only [E.den, O2.ev, LV.B_b, Bool.or_eq_false_iff] at he
        rcases h with h | h
        · exact ia _ h he.1
        · exact ib _ h he.2
  | v n => intro pol h he; exact impBase_ok h he
  | ki n => intro pol h he; exact impBase_ok h he
  | kb n => intro pol h he; exact impBase_ok h he
  | lnil => intro pol h he; exact impBase_ok h he
  | rnil => intro pol h he; exact impBase_ok h he
  | iteI _ _ _ => intro pol h he; exact impBase_ok h he
  | iteB _ _ _ => intro pol h he; exact impBase_ok h he
  | iteL _ _ _ => intro pol h he; exact impBase_ok h he
  | len _ => intro pol h he; exact impBase_ok h he
  | sub _ _ _ => intro pol h he; exact impBase_ok h he
/-- The same, the goal taken apart. -/
def impS (h : E) : E → Bool → Bool
  | .op2 o a b, p => imp (if p then .op2 o a b else .op1 .not (.op2 o a b)) h true || (match o with
      | .and => p && (impS h a true && impS h b true)
      | .or => !p && (impS h a false && impS h b false)
      | _ => false)
  | .op1 o a, p => imp (if p then .op1 o a else .op1 .not (.op1 o a)) h true || (match o with
      | .not => impS h a (!p)
      | _ => false)
  | e, p => imp (if p then e else .op1 .not e) h true
theorem impS_base {h e : E} {p : Bool} {ρ : Env} (hi : imp (if p then e else .op1 .not e) h true = true) (hh : (h.den ρ).B = true) : (e.den ρ).B = p := by
  have := imp_ok _ _ _ hi hh
  cases p with
  | true => exact this
  | false => simpa [E.den, O1.ev] using this
theorem impS_ok {h : E} {ρ : Env} (hh : (h.den ρ).B = true) : ∀ (e : E) (p : Bool), impS h e p = true → (e.den ρ).B = p := by
  intro e
  induction e with
  | op1 o a ia =>
    intro p hi
    simp only [impS, Bool.or_eq_true] at hi
    rcases hi with hi | hi
    · exact impS_base hi hh
    · cases o with
      | not =>
        have := ia _ hi
        simp [E.den, O1.ev, this]
      | wrap k => simp at hi
  | op2 o a b ia ib =>
    intro p hi
    simp only [impS, Bool.or_eq_true] at hi
    rcases hi with hi | hi
    · exact impS_base hi hh
    · cases o <;> simp only [Bool.false_eq_true] at hi
      · simp only [Bool.and_eq_true] at hi
        obtain ⟨rfl, h1, h2⟩ := hi
        simp [E.den, O2.ev, ia _ h1, ib _ h2]
      · simp only [Bool.and_eq_true, Bool.not_eq_true'] at hi
        obtain ⟨rfl, h1, h2⟩ := hi
        simp [E.den, O2.ev, ia _ h1, ib _ h2]
  | v n => intro p hi; exact impS_base hi hh
  | ki n => intro p hi; exact impS_base hi hh
  | kb n => intro p hi; exact impS_base hi hh
  | lnil => intro p hi; exact impS_base hi hh
  | rnil => intro p hi; exact impS_base hi hh
  | iteI _ _ _ => intro p hi; exact impS_base hi hh
  | iteB _ _ _ => intro p hi; exact impS_base hi hh
  | iteL _ _ _ => intro p hi; exact impS_base hi hh
  | len _ => intro p hi; exact impS_base hi hh
  | sub _ _ _ => intro p hi; exact impS_base hi hh
/-- A value that is there if c holds, where g holds and c follows. -/
def strip (g : E) : V2 → V2
  | .opt c x => if impS g c true || decide (c = .kb true) then .one x else .opt c x
  | x => x
theorem strip_ok {g : E} {ρ : Env} {β : Blk} {w : World} (hg : (g.den ρ).B = true) {x : V2} {v : Value} (h : x.rep ρ β w v) : (strip g x).rep ρ β w v := by
  cases x with
  | opt c x =>
    simp only [strip]
    split
    · rename_i hi
      have hc : (c.den ρ).B = true := by
        simp only [Bool.or_eq_true, decide_eq_true_eq] at hi
        rcases hi with hi | hi
        · exact impS_ok hg c true hi
        · subst hi; rfl
      simp only [V2.rep, hc, if_true] at h
      exact h
    · exact h
  | one x => exact h
  | tup xs => exact h
  | undef => exact h

/-! ### Two values, one of them by a test -/
def mkIteB (c a b : E) : E :=
  if b = .kb false then .op2 .and c a else if a = .kb true then .op2 .or c b else .iteB c a b
theorem mkIteB_ok (ρ : Env) (c a b : E) : ((mkIteB c a b).den ρ).B = if (c.den ρ).B then (a.den ρ).B else (b.den ρ).B := by
  unfold mkIteB
  split
  · rename_i h; subst h; simp only [E.den, O2.ev, LV.B_b]; cases (c.den ρ).B <;> simp
  · split
    · rename_i h; subst h; simp only [E.den, O2.ev, LV.B_b]; cases (c.den ρ).B <;> simp
    · simp only [E.den, LV.B_b]
def CV.merge (c : E) (x y : CV) : Option CV :=
  if x = y then some x else
  match x, y with
  | .ex (.base (.int k)) a, .ex (.base (.int k')) b => if k = k' then some (.ex (.base (.int k)) (.iteI c a b)) else none
  | .ex (.base .bool) a, .ex (.base .bool) b => some (.ex (.base .bool) (mkIteB c a b))
  | .ex (.sl s) a, .ex (.sl s') b => if s = s' then some (.ex (.sl s) (.iteL c a b)) else none
  | .tsl s a, .ex (.sl s') b => if s = s' then some (.ex (.sl s) (.iteL c a b)) else none
  | .ex (.sl s) a, .tsl s' b => if s = s' then some (.ex (.sl s) (.iteL c a b)) else none
  | _, _ => none
theorem CV.merge_ok {ρ : Env} {β : Blk} {w : World} {c : E} {x y z : CV} (h : CV.merge c x y = some z) {v : Value} (hv : if (c.den ρ).B then x.rep ρ β w v else y.rep ρ β w v) : z.rep ρ β w v := by
  unfold CV.merge at h
  split at h
  · rename_i he
    subst he
    simp only [Option.some.injEq] at h
    subst h
    simpa using hv
  · split at h
    · split at h
      · rename_i hk
        subst hk
        simp only [Option.some.injEq] at h
        subst h
        simp only [CV.rep, Col.rep, BC.rep, E.den, LV.I_i] at hv ⊢
        split at hv <;> rename_i hc <;> simp [hc, hv]
      · simp at h
    · simp only [Option.some.injEq] at h
      subst h
      simp only [CV.rep, Col.rep, BC.rep] at hv ⊢
      rw [mkIteB_ok]
      split at hv <;> rename_i hc <;> simp [hc, hv]
    · split at h
      · rename_i hk
        subst hk
        simp only [Option.some.injEq] at h
        subst h
        simp only [CV.rep, Col.rep, E.den, LV.L_l] at hv ⊢
        split at hv <;> rename_i hc <;> simp [hc, hv]
      · simp at h
    · split at h
      · rename_i hk
        subst hk
        simp only [Option.some.injEq] at h
        subst h
        simp only [CV.rep, Col.rep, E.den, LV.L_l] at hv ⊢
        split at hv <;> rename_i hc
        · simp [hc, hv.1]
        · simp [hc, hv]
      · simp at h
    · split at h
      · rename_i hk
        subst hk
        simp only [Option.some.injEq] at h
        subst h
        simp only [CV.rep, Col.rep, E.den, LV.L_l] at hv ⊢
        split at hv <;> rename_i hc
        · simp [hc, hv]
        · simp [hc, hv.1]
      · simp at h
    · simp at h
def mergeAll (c : E) : List CV → List CV → Option (List CV)
  | [], [] => some []
  | x :: xs, y :: ys => (CV.merge c x y).bind fun z => (mergeAll c xs ys).map fun zs => z :: zs
  | _, _ => none
theorem mergeAll_ok {ρ : Env} {β : Blk} {w : World} {c : E} : ∀ {xs ys zs : List CV}, mergeAll c xs ys = some zs → ∀ {us : List Value},
    (if (c.den ρ).B then All2 (CV.rep ρ β w) xs us else All2 (CV.rep ρ β w) ys us) → All2 (CV.rep ρ β w) zs us := by
  intro xs
  induction xs with
  | nil =>
    intro ys zs h us hv
    cases ys with
    | nil => simp only [mergeAll, Option.some.injEq] at h; subst h; simpa using hv
    | cons y ys => simp [mergeAll] at h
  | cons x xs ih =>
    intro ys zs h us hv
    cases ys with
    | nil => simp [mergeAll] at h
    | cons y ys =>
      simp only [mergeAll, Option.bind_eq_some_iff, Option.map_eq_some_iff] at h
      obtain ⟨z, hz, zs', hzs, rfl⟩ := h
      by_cases hc : (c.den ρ).B = true
      · rw [if_pos hc] at hv
        cases hv with
        | cons h1 h2 => exact .cons (CV.merge_ok hz (by rw [if_pos hc]; exact h1)) (ih hzs (by rw [if_pos hc]; exact h2))
      · rw [if_neg hc] at hv
        cases hv with
        | cons h1 h2 => exact .cons (CV.merge_ok hz (by rw [if_neg hc]; exact h1)) (ih hzs (by rw [if_neg hc]; exact h2))
def V2.merge (c : E) (x y : V2) : Option V2 :=
  if x = y then some x else
  match x, y with
  | .one (.cell a), .one (.cell b) => (CV.merge c a b).map fun z => .one (.cell z)
  | .one (.agg a), .one (.agg b) => (mergeAll c a b).map fun z => .one (.agg z)
  | _, _ => none
theorem V2.merge_ok {ρ : Env} {β : Blk} {w : World} {c : E} {x y z : V2} (h : V2.merge c x y = some z) {v : Value} (hv : if (c.den ρ).B then x.rep ρ β w v else y.rep ρ β w v) : z.rep ρ β w v := by
  unfold V2.merge at h
  split at h
  · rename_i he
    subst he
    simp only [Option.some.injEq] at h
    subst h
    simpa using hv
  · split at h
    · simp only [Option.map_eq_some_iff] at h
      obtain ⟨z', hz, rfl⟩ := h
      exact CV.merge_ok (v := v) hz hv
    · simp only [Option.map_eq_some_iff] at h
      obtain ⟨z', hz, rfl⟩ := h
      by_cases hc : (c.den ρ).B = true
      · rw [if_pos hc] at hv
        obtain ⟨us, h1, h2⟩ := hv
        exact ⟨us, h1, mergeAll_ok hz (by rw [if_pos hc]; exact h2)⟩
      · rw [if_neg hc] at hv
        obtain ⟨us, h1, h2⟩ := hv
        exact ⟨us, h1, mergeAll_ok hz (by rw [if_neg hc]; exact h2)⟩
    · simp at h

/-! ### Integers -/
def nz (y : E) : List E :=
  match y with
  | .ki n => if n = 0 then [.kb false] else []
  | y => [.op1 .not (.op2 .eq y (.ki 0))]
theorem nz_ok {ρ : Env} {y : E} (h : ∀ e, e ∈ nz y → (e.den ρ).B = true) : (y.den ρ).I ≠ 0 := by
  unfold nz at h
  split at h
  · rename_i n
    split at h
    · have := h (.kb false) (by simp); simp [E.den] at this
    · rename_i hn; simpa [E.den] using hn
  · have := h _ (List.mem_singleton.2 rfl)
    simp only [E.den, O1.ev, O2.ev, LV.B_b, LV.I_i, Bool.not_eq_true'] at this; exact of_decide_eq_false this
def nn (y : E) : List E :=
  match y with
  | .ki n => if 0 ≤ n then [] else [.kb false]
  | y => [.op2 .le (.ki 0) y]
theorem nn_ok {ρ : Env} {y : E} (h : ∀ e, e ∈ nn y → (e.den ρ).B = true) : 0 ≤ (y.den ρ).I := by
  unfold nn at h
  split at h
  · rename_i n
    split at h
    · rename_i hn; simpa [E.den] using hn
    · have := h (.kb false) (by simp); simp [E.den] at this
  · have := h _ (List.mem_singleton.2 rfl)
    simp only [E.den, O2.ev, LV.B_b, LV.I_i] at this; exact of_decide_eq_true this
def int (k : IntKind) (e : E) : CV := .ex (.base (.int k)) e
def bool (e : E) : CV := .ex (.base .bool) e
/-- An operation on two integers, of kinds k and k'. -/
def intBin (op : BinOp) (k k' : IntKind) (x y : E) : Option (CV × List E) :=
  match op with
  | .shl => some (int k (.op1 (.wrap k) (.op2 (.shl k) x y)), nn y)
  | .shr => some (int k (.op2 (.shr k) x y), nn y)
  | op => if k = k' then
      match op with
      | .add => some (int k (.op1 (.wrap k) (.op2 .add x y)), [])
      | .sub => some (int k (.op1 (.wrap k) (.op2 .sub x y)), [])
      | .mul => some (int k (.op1 (.wrap k) (.op2 .mul x y)), [])
      | .quo => some (int k (.op1 (.wrap k) (.op2 .quo x y)), nz y)
      | .rem => some (int k (.op2 .rem x y), nz y)
      | .eql => some (bool (.op2 .eq x y), [])
      | .neq => some (bool (.op1 .not (.op2 .eq x y)), [])
      | .lss => some (bool (.op2 .lt x y), [])
      | .leq => some (bool (.op2 .le x y), [])
      | .gtr => some (bool (.op2 .lt y x), [])
      | .geq => some (bool (.op2 .le y x), [])
      | op => some (int k (.op2 (.bit op k) x y), [])
    else none
theorem beq_dec (a b : Int) : (a == b) = decide (a = b) := by
  by_cases h : a = b <;> simp [h]
theorem run_eqGuard_int (P : Program) (w : World) (op : BinOp) (t : TypeId) (x y : Operand) (k k' : IntKind) (a b : Int) : (eqGuard op t x y (.int k a) (.int k' b)).run P w = .ok () w := by
  cases op <;> simp [eqGuard]
theorem run_eqGuard_bool (P : Program) (w : World) (op : BinOp) (t : TypeId) (x y : Operand) (a b : Bool) : (eqGuard op t x y (.bool a) (.bool b)).run P w = .ok () w := by
  cases op <;> simp [eqGuard]
theorem intBin_ok {P : Program} {w : World} {ρ : Env} {β : Blk} {op : BinOp} {k k' : IntKind} {x y : E} {c : CV} {ns : List E} (h : intBin op k k' x y = some (c, ns))
    (hn : ∀ e, e ∈ ns → (e.den ρ).B = true) (t : TypeId) : ∃ v, (binOp op t (.int k (x.den ρ).I) (.int k' (y.den ρ).I)).run P w = .ok v w ∧ c.rep ρ β w v := by
  cases op <;> simp only [intBin] at h
  case shl =>
    simp only [Option.some.injEq, Prod.mk.injEq] at h
    obtain ⟨rfl, rfl⟩ := h
    have h0 := nn_ok hn
    exact ⟨_, by simp only [binOp, Op.shift]; rw [if_neg (by omega)]; rfl, rfl⟩
  case shr =>
    simp only [Option.some.injEq, Prod.mk.injEq] at h
    obtain ⟨rfl, rfl⟩ := h
    have h0 := nn_ok hn
    exact ⟨_, by simp only [binOp, Op.shift]; rw [if_neg (by omega)]; rfl, rfl⟩
  all_goals
    split at h
    case isFalse => simp at h
    rename_i hk
    subst hk
    simp only [Option.some.injEq, Prod.mk.injEq] at h
    obtain ⟨rfl, rfl⟩ := h
  case quo =>
    have h0 := nz_ok hn
    exact ⟨_, by simp only [binOp, Op.intDiv]; rw [if_neg (fun h => h rfl), if_neg h0]; rfl, rfl⟩
  case rem =>
    have h0 := nz_ok hn
    exact ⟨_, by simp only [binOp, Op.intDiv]; rw [if_neg (fun h => h rfl), if_neg h0]; rfl, rfl⟩
  case and => exact ⟨_, by simp only [binOp, Op.intBits]; rw [if_neg (fun h => h rfl)]; rfl, rfl⟩
  case or => exact ⟨_, by simp only [binOp, Op.intBits]; rw [if_neg (fun h => h rfl)]; rfl, rfl⟩
  case xor => exact ⟨_, by simp only [binOp, Op.intBits]; rw [if_neg (fun h => h rfl)]; rfl, rfl⟩
  case andNot => exact ⟨_, by simp only [binOp, Op.intBits]; rw [if_neg (fun h => h rfl)]; rfl, rfl⟩
  case eql => exact ⟨_, by simp only [binOp, Op.intCmp]; rw [if_neg (fun h => h rfl)]; rfl, by simp [bool, CV.rep, Col.rep, BC.rep, E.den, O2.ev, beq_dec]⟩
  case neq => exact ⟨_, by simp only [binOp, Op.intCmp]; rw [if_neg (fun h => h rfl)]; rfl, by simp [bool, CV.rep, Col.rep, BC.rep, E.den, O2.ev, O1.ev, bne, beq_dec]⟩
  all_goals exact ⟨_, by first | (simp only [binOp, Op.intArith]; rw [if_neg (fun h => h rfl)]; rfl) | (simp only [binOp, Op.intCmp]; rw [if_neg (fun h => h rfl)]; rfl), by first | rfl | simp [bool, CV.rep, Col.rep, BC.rep, E.den, O2.ev, O1.ev]⟩
end Go.Proofs.Ythhnnfmfeofknaa.Sy
