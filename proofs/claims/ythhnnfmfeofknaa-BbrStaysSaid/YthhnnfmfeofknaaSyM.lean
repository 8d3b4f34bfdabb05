/-
  A symbolic evaluator for the model's code, part M: trees of what a piece of code comes to, what they say, and how two ways are made one.
-/
import Derived.Test.YthhnnfmfeofknaaSyL
import Derived.LoopN
namespace Go.Proofs.Ythhnnfmfeofknaa.Sy
open Go Go.RowKit
set_option linter.unusedSimpArgs false
set_option linter.unusedVariables false

inductive Item where
  | need (e : E)
  | pre (g : E) (key : Nat) (es : List E)
  | bind (key : Nat) (es : List E) (n m : Nat)
inductive Tr (α : Type) where
  | leaf (x : α)
  | item (i : Item) (t : Tr α)
  | ite (c : E) (a b : Tr α)
  | loop (n m : Nat) (init : List E) (body : Tr α)
  | next (d : Nat) (es : List E)
def setE (ρ : Env) (n m : Nat) (xs : List LV) : Env := fun i => if n ≤ i ∧ i < n + m then outOf xs (i - n) else ρ i
def iter (F : (List LV → Prop) → List LV → Prop) : Nat → List LV → Prop
  | 0, _ => False
  | k + 1, xs => F (iter F k) xs
def nextAt : List (List LV → Prop) → Nat → List LV → Prop
  | [], _, _ => False
  | f :: _, 0, xs => f xs
  | _ :: r, d + 1, xs => nextAt r d xs
/-- What a tree says: every need, every callee's premise, and at each end Q. -/
def Tr.den {α : Type} (Φ : Nat → List LV → List LV) (Pr : Nat → List LV → Prop) : Tr α → Env → List (List LV → Prop) → (Env → List (List LV → Prop) → α → Prop) → Prop
  | .leaf x, ρ, ks, Q => Q ρ ks x
  | .item (.need e) t, ρ, ks, Q => (e.den ρ).B = true ∧ t.den Φ Pr ρ ks Q
  | .item (.pre g key es) t, ρ, ks, Q => ((g.den ρ).B = true → Pr key (es.map (·.den ρ))) ∧ t.den Φ Pr ρ ks Q
  | .item (.bind key es n m) t, ρ, ks, Q => t.den Φ Pr (setE ρ n m (Φ key (es.map (·.den ρ)))) ks Q
  | .ite c a b, ρ, ks, Q => if (c.den ρ).B = true then a.den Φ Pr ρ ks Q else b.den Φ Pr ρ ks Q
  | .loop n m init body, ρ, ks, Q => ∃ k, iter (fun ih xs => body.den Φ Pr (setE ρ n m xs) (ks ++ [ih]) Q) k (init.map (·.den ρ))
  | .next d es, ρ, ks, _ => nextAt ks d (es.map (·.den ρ))

section
variable {Φ : Nat → List LV → List LV} {Pr : Nat → List LV → Prop}
theorem iter_mono {F G : (List LV → Prop) → List LV → Prop} (h : ∀ ih ih' xs, (∀ ys, ih ys → ih' ys) → F ih xs → G ih' xs) : ∀ (k : Nat) (xs : List LV), iter F k xs → iter G k xs := by
  intro k
  induction k with
  | zero => intro xs hx; exact hx
  | succ k ih => intro xs hx; exact h _ _ _ ih hx
theorem nextAt_mono : ∀ {ks ks' : List (List LV → Prop)} {d : Nat} {xs : List LV}, All2 (fun f g => ∀ ys, f ys → g ys) ks ks' → nextAt ks d xs → nextAt ks' d xs := by
  intro ks ks' d xs h
  induction h generalizing d with
  | nil => intro hx; exact hx
  | cons h1 _ ih =>
    intro hx
    cases d with
    | zero => exact h1 _ hx
    | succ d => exact ih hx
theorem All2.snoc {α γ : Type} {R : α → γ → Prop} {xs : List α} {ys : List γ} (h : All2 R xs ys) {x : α} {y : γ} (hr : R x y) : All2 R (xs ++ [x]) (ys ++ [y]) := by
  induction h with
  | nil => exact .cons hr .nil
  | cons h1 _ ih => exact .cons h1 ih
theorem All2.refl {α : Type} {R : α → α → Prop} (h : ∀ x, R x x) : ∀ (xs : List α), All2 R xs xs := by
  intro xs
  induction xs with
  | nil => exact .nil
  | cons x xs ih => exact .cons (h x) ih
/-- The binds of a tree are of variables from n on. -/
def Tr.from_ {α : Type} (n : Nat) : Tr α → Bool
  | .leaf _ => true
  | .item (.bind _ _ n' _) t => decide (n ≤ n') && t.from_ n
  | .item _ t => t.from_ n
  | .ite _ a b => a.from_ n && b.from_ n
  | .loop n' _ _ body => decide (n ≤ n') && body.from_ n
  | .next _ _ => true
theorem Tr.from_zero {α : Type} : ∀ (t : Tr α), t.from_ 0 = true := by
  intro t
  induction t with
  | leaf x => rfl
  | item i t ih => cases i <;> simp [Tr.from_, ih]
  | ite c a b ia ib => simp [Tr.from_, ia, ib]
  | loop n m init body ih => simp [Tr.from_, ih]
  | next d es => rfl
theorem setE_lt {ρ : Env} {n m i : Nat} {xs : List LV} (h : i < n) : setE ρ n m xs i = ρ i := by
  simp only [setE]
  rw [if_neg (by omega)]
theorem setE_in {ρ : Env} {n m i : Nat} {xs : List LV} (h : i < m) : setE ρ n m xs (n + i) = outOf xs i := by
  simp only [setE]
  rw [if_pos (by omega), Nat.add_sub_cancel_left]
theorem setE_out {ρ : Env} {n m i : Nat} {xs : List LV} (h : n + m ≤ i) : setE ρ n m xs i = ρ i := by
  simp only [setE]
  rw [if_neg (by omega)]
def Le (ks ks' : List (List LV → Prop)) : Prop := All2 (fun f g => ∀ ys, f ys → g ys) ks ks'
theorem Le.refl (ks : List (List LV → Prop)) : Le ks ks := All2.refl (fun _ _ h => h) ks
/-- Trees speak of what holds behind them, and of nothing else; at each end the environment still says of old variables what it said, and what goes on behind the loops still stands where it stood. -/
theorem Tr.mono {α : Type} (n : Nat) : ∀ (t : Tr α) {ρ : Env} {ks ks' : List (List LV → Prop)} {Q Q' : Env → List (List LV → Prop) → α → Prop}, t.from_ n = true → Le ks ks' →
    (∀ ρ' k k' x ext, Le k k' → k' = ks' ++ ext → (∀ i, i < n → ρ' i = ρ i) → Q ρ' k x → Q' ρ' k' x) → t.den Φ Pr ρ ks Q → t.den Φ Pr ρ ks' Q' := by
  intro t
  induction t with
  | leaf x => intro ρ ks ks' Q Q' _ hk hq h; exact hq _ _ _ _ [] hk (by simp) (fun _ _ => rfl) h
  | item i t ih =>
    intro ρ ks ks' Q Q' hf hk hq h
    cases i with
    | need e => exact ⟨h.1, ih (by simpa [Tr.from_] using hf) hk hq h.2⟩
    | pre g key es => exact ⟨h.1, ih (by simpa [Tr.from_] using hf) hk hq h.2⟩
    | bind key es n' m =>
      simp only [Tr.from_, Bool.and_eq_true, decide_eq_true_eq] at hf
      refine ih (ρ := setE ρ n' m _) hf.2 hk (fun ρ' k k' x ext h1 h2 h3 h4 => hq ρ' k k' x ext h1 h2 (fun i hi => ?_) h4) h
      rw [h3 i hi, setE_lt (by omega)]
  | ite c a b ia ib =>
    intro ρ ks ks' Q Q' hf hk hq h
    simp only [Tr.from_, Bool.and_eq_true] at hf
    simp only [Tr.den] at h ⊢
    split
    · rename_i hc; rw [if_pos hc] at h; exact ia hf.1 hk hq h
    · rename_i hc; rw [if_neg hc] at h; exact ib hf.2 hk hq h
  | loop n' m init body ih =>
    intro ρ ks ks' Q Q' hf hk hq h
    simp only [Tr.from_, Bool.and_eq_true, decide_eq_true_eq] at hf
    obtain ⟨k, hk2⟩ := h
    refine ⟨k, iter_mono (fun f g xs hfg hx => ih (ρ := setE ρ n' m xs) hf.2 (All2.snoc hk hfg) (fun ρ' k k' x ext h1 h2 h3 h4 => hq ρ' k k' x ([g] ++ ext) h1 (by rw [h2, List.append_assoc]) (fun i hi => ?_) h4) hx) k _ hk2⟩
    rw [h3 i hi, setE_lt (by omega)]
  | next d es => intro ρ ks ks' Q Q' _ hk _ h; exact nextAt_mono hk h
/-- Only what is at the ends turns. -/
def Tr.map {α γ : Type} (f : α → γ) : Tr α → Tr γ
  | .leaf x => .leaf (f x)
  | .item i t => .item i (t.map f)
  | .ite c a b => .ite c (a.map f) (b.map f)
  | .loop n m init body => .loop n m init (body.map f)
  | .next d es => .next d es
theorem Tr.den_map {α γ : Type} (f : α → γ) : ∀ (t : Tr α) {ρ : Env} {ks : List (List LV → Prop)} {Q : Env → List (List LV → Prop) → γ → Prop}, (t.map f).den Φ Pr ρ ks Q = t.den Φ Pr ρ ks (fun ρ ks x => Q ρ ks (f x)) := by
  intro t
  induction t with
  | leaf x => intro ρ ks Q; rfl
  | item i t ih =>
    intro ρ ks Q
    cases i with
    | need e => simp only [Tr.map, Tr.den, ih]
    | pre g key es => simp only [Tr.map, Tr.den, ih]
    | bind key es n m => simp only [Tr.map, Tr.den, ih]
  | ite c a b ia ib => intro ρ ks Q; simp only [Tr.map, Tr.den, ia, ib]
  | loop n m init body ih => intro ρ ks Q; simp only [Tr.map, Tr.den, ih]
  | next d es => intro ρ ks Q; rfl
/-- What follows at each end; the counters of blocks and variables are handed on. -/
def bindT {α γ : Type} (f : α → Nat → Nat → Option (Tr γ × Nat × Nat)) : Tr α → Nat → Nat → Option (Tr γ × Nat × Nat)
  | .leaf x, s, n => f x s n
  | .item i t, s, n => (bindT f t s n).map fun q => (.item i q.1, q.2)
  | .ite c a b, s, n => (bindT f a s n).bind fun q => (bindT f b q.2.1 q.2.2).map fun r => (.ite c q.1 r.1, r.2)
  | .loop n0 m init body, s, n => (bindT f body s n).map fun q => (.loop n0 m init q.1, q.2)
  | .next d es, s, n => some (.next d es, s, n)
theorem bindT_ok {α γ : Type} {f : α → Nat → Nat → Option (Tr γ × Nat × Nat)} {Q : Env → List (List LV → Prop) → γ → Prop} (hQ : ∀ ρ k k' x, Le k k' → Q ρ k x → Q ρ k' x) :
    ∀ (t : Tr α) {s n s' n' : Nat} {t' : Tr γ}, bindT f t s n = some (t', s', n') → ∀ {ρ : Env} {ks : List (List LV → Prop)}, t'.den Φ Pr ρ ks Q →
      t.den Φ Pr ρ ks (fun ρ ks x => ∃ s n t1 s1 n1, f x s n = some (t1, s1, n1) ∧ t1.den Φ Pr ρ ks Q) := by
  intro t
  induction t with
  | leaf x => intro s n s' n' t' h ρ ks hd; exact ⟨s, n, t', s', n', h, hd⟩
  | item i t ih =>
    intro s n s' n' t' h ρ ks hd
    simp only [bindT, Option.map_eq_some_iff, Prod.mk.injEq] at h
    obtain ⟨⟨q, s1, n1⟩, hq, rfl, rfl, rfl⟩ := h
    cases i with
    | need e => exact ⟨hd.1, ih hq hd.2⟩
    | pre g key es => exact ⟨hd.1, ih hq hd.2⟩
    | bind key es n m => exact ih hq (ρ := setE ρ n m _) hd
  | ite c a b ia ib =>
    intro s n s' n' t' h ρ ks hd
    simp only [bindT, Option.bind_eq_some_iff, Option.map_eq_some_iff, Prod.mk.injEq] at h
    obtain ⟨⟨q, s1, n1⟩, hq, ⟨r, s2, n2⟩, hr, rfl, rfl, rfl⟩ := h
    simp only [Tr.den] at hd ⊢
    split
    · rename_i hc; rw [if_pos hc] at hd; exact ia hq hd
    · rename_i hc; rw [if_neg hc] at hd; exact ib hr hd
  | loop n0 m init body ih =>
    intro s n s' n' t' h ρ ks hd
    simp only [bindT, Option.map_eq_some_iff, Prod.mk.injEq] at h
    obtain ⟨⟨q, s1, n1⟩, hq, rfl, rfl, rfl⟩ := h
    obtain ⟨k, hk⟩ := hd
    refine ⟨k, iter_mono (fun f g xs hfg hx => ih hq (ρ := setE ρ n0 m xs) ?_) k _ hk⟩
    exact Tr.mono 0 q (ρ := setE ρ n0 m xs) q.from_zero (All2.snoc (Le.refl ks) hfg) (fun ρ' k k' x ext h1 _ _ h4 => hQ ρ' k k' x h1 h4) hx
  | next d es =>
    intro s n s' n' t' h ρ ks hd
    simp only [bindT, Option.some.injEq, Prod.mk.injEq] at h
    obtain ⟨rfl, rfl, rfl⟩ := h
    exact hd
end

/-! ### Two ways made one -/
inductive Ex where
  | normal
  | exit (id : Nat)
  | ret
  deriving DecidableEq
structure Lf where
  ex : Ex
  u : St
  d : Nat
def Ex.out : Ex → Exit
  | .normal => .normal
  | .exit id => .exit id
  | .ret => .ret
/-- The needs and premises of a straight way without binds, and its end. -/
def lin : Tr Lf → Option (List Item × Lf)
  | .leaf x => some ([], x)
  | .item (.need e) t => (lin t).map fun q => (.need e :: q.1, q.2)
  | .item (.pre g key es) t => (lin t).map fun q => (.pre g key es :: q.1, q.2)
  | _ => none
def guardI (c : E) : Item → Item
  | .need e => .need (guardE c e)
  | .pre g key es => .pre (.op2 .and c g) key es
  | .bind key es n m => .bind key es n m
def wrapI {α : Type} : List Item → Tr α → Tr α
  | [], t => t
  | i :: r, t => .item i (wrapI r t)
def mergeAt (c : E) (Sa Sb : Sm) (l : Loc) : Option V2 :=
  match Sa l, Sb l with
  | some x, some y => if l.1 = 1 then (if x = y then some x else none) else V2.merge c x y
  | _, _ => none
def mergeU (c : E) (Sa Sb : Sm) : St → St → St
  | [], done => done
  | (l, _) :: r, done => if keyLoc l done then mergeU c Sa Sb r done else mergeU c Sa Sb r ((l, mergeAt c Sa Sb l) :: done)
/-- Blocks that are not alive on both ways. -/
def deadOf : St → List Nat
  | [] => []
  | (l, none) :: r => if l.1 = 1 then l.2 :: deadOf r else deadOf r
  | (_, some _) :: r => deadOf r
def CV.noPtr (dead : List Nat) : CV → Bool
  | .ptr b _ => !dead.contains b
  | _ => true
def V1.noPtr (dead : List Nat) : V1 → Bool
  | .cell c => c.noPtr dead
  | .agg cs => cs.all (·.noPtr dead)
def V2.noPtr (dead : List Nat) : V2 → Bool
  | .one x => x.noPtr dead
  | .tup xs => xs.all (·.noPtr dead)
  | .opt _ x => x.noPtr dead
  | .undef => true
def St.noPtr (dead : List Nat) (s : St) : Bool := s.all fun e => match e.2 with
  | some x => x.noPtr dead
  | none => true
def squash1 (S : St) (c : E) (a b : Tr Lf) : Tr Lf :=
  match lin a, lin b with
  | some (ia, la), some (ib, lb) =>
    if la.ex = lb.ex ∧ la.d = lb.d then
      let um := mergeU c (la.u ++ S).get (lb.u ++ S).get (la.u ++ lb.u) []
      let dead := deadOf um
      if dead.isEmpty || St.noPtr dead (um ++ S) then wrapI (ia.map (guardI c)) (wrapI (ib.map (guardI (.op1 .not c))) (.leaf ⟨la.ex, um, la.d⟩)) else .ite c a b
    else .ite c a b
  | _, _ => .ite c a b
def squash (S : St) : Tr Lf → Tr Lf
  | .ite c a b => squash1 S c (squash S a) (squash S b)
  | .item i t => .item i (squash S t)
  | t => t
end Go.Proofs.Ythhnnfmfeofknaa.Sy
