/-
  A symbolic evaluator for the model's code, part A: values that a proof names, expressions over them, what a symbolic value stands for in a world, and how that lasts while memory grows.
-/
import Derived.Orders
import Derived.Below
import Derived.WalkKit
import Derived.Shelf.Abstract
namespace Go.Proofs.Ythhnnfmfeofknaa.Sy
open Go Go.RowKit
set_option linter.unusedSimpArgs false
set_option linter.unusedVariables false

/-! ### Leaves -/
inductive LV where
  | i (n : Int)
  | b (x : Bool)
  | o (v : Value)
  | l (rows : List (List LV))
  deriving Inhabited
def LV.I : LV → Int
  | .i n => n
  | _ => 0
def LV.B : LV → Bool
  | .b x => x
  | _ => false
def LV.O : LV → Value
  | .o v => v
  | _ => undef
def LV.L : LV → List (List LV)
  | .l r => r
  | _ => []
@[simp] theorem LV.I_i (n : Int) : (LV.i n).I = n := rfl
@[simp] theorem LV.B_b (x : Bool) : (LV.b x).B = x := rfl
@[simp] theorem LV.O_o (v : Value) : (LV.o v).O = v := rfl
@[simp] theorem LV.L_l (r : List (List LV)) : (LV.l r).L = r := rfl

inductive O1 where
  | wrap (k : IntKind)
  | not
  deriving DecidableEq
inductive O2 where
  | add | sub | mul | quo | rem | mx | mn
  | shl (k : IntKind) | shr (k : IntKind)
  | bit (op : BinOp) (k : IntKind)
  | lt | le | eq
  | and | or | eqb
  | cat | rcons
  | rd (j : Nat)
  deriving DecidableEq
/-- Go's bit operations on integers of a kind. -/
def bitI (op : BinOp) (k : IntKind) (x y : Int) : Int :=
  let a := BitVec.ofInt k.bits x
  let b := BitVec.ofInt k.bits y
  k.wrap (match op with
    | .and => (a &&& b).toNat
    | .or => (a ||| b).toNat
    | .xor => (a ^^^ b).toNat
    | _ => (a &&& ~~~b).toNat)
def O1.ev : O1 → LV → LV
  | .wrap k, a => .i (k.wrap a.I)
  | .not, a => .b (!a.B)
def O2.ev : O2 → LV → LV → LV
  | .add, a, b => .i (a.I + b.I)
  | .sub, a, b => .i (a.I - b.I)
  | .mul, a, b => .i (a.I * b.I)
  | .quo, a, b => .i (a.I.tdiv b.I)
  | .rem, a, b => .i (a.I.tmod b.I)
  | .mx, a, b => .i (max a.I b.I)
  | .mn, a, b => .i (min a.I b.I)
  | .shl k, a, b => .i (a.I * 2 ^ (min b.I.toNat k.bits))
  | .shr k, a, b => .i (a.I.fdiv (2 ^ (min b.I.toNat k.bits)))
  | .bit op k, a, b => .i (bitI op k a.I b.I)
  | .lt, a, b => .b (decide (a.I < b.I))
  | .le, a, b => .b (decide (a.I ≤ b.I))
  | .eq, a, b => .b (decide (a.I = b.I))
  | .and, a, b => .b (a.B && b.B)
  | .or, a, b => .b (a.B || b.B)
  | .eqb, a, b => .b (a.B == b.B)
  | .cat, a, b => .l (a.L ++ b.L)
  | .rcons, a, b => .l [a :: b.L.headD []]
  | .rd j, a, b => (a.L.getD b.I.toNat []).getD j (.i 0)
inductive E where
  | v (n : Nat)
  | ki (n : Int)
  | kb (x : Bool)
  | lnil
  | rnil
  | op1 (o : O1) (a : E)
  | op2 (o : O2) (a b : E)
  | iteI (c a b : E)
  | iteB (c a b : E)
  | iteL (c a b : E)
  | len (l : E)
  | sub (l lo hi : E)
  deriving DecidableEq
abbrev Env := Nat → LV
def E.den (ρ : Env) : E → LV
  | .v n => ρ n
  | .ki n => .i n
  | .kb x => .b x
  | .lnil => .l []
  | .rnil => .l [[]]
  | .op1 o a => o.ev (a.den ρ)
  | .op2 o a b => o.ev (a.den ρ) (b.den ρ)
  | .iteI c a b => .i (if (c.den ρ).B then (a.den ρ).I else (b.den ρ).I)
  | .iteB c a b => .b (if (c.den ρ).B then (a.den ρ).B else (b.den ρ).B)
  | .iteL c a b => .l (if (c.den ρ).B then (a.den ρ).L else (b.den ρ).L)
  | .len l => .i (l.den ρ).L.length
  | .sub l lo hi => .l (((l.den ρ).L.take (hi.den ρ).I.toNat).drop (lo.den ρ).I.toNat)
/-- Every variable is one that f lets. -/
def E.ok (f : Nat → Bool) : E → Bool
  | .v m => f m
  | .ki _ | .kb _ | .lnil | .rnil => true
  | .op1 _ a => a.ok f
  | .op2 _ a b => a.ok f && b.ok f
  | .iteI c a b | .iteB c a b | .iteL c a b => c.ok f && (a.ok f && b.ok f)
  | .len l => l.ok f
  | .sub l lo hi => l.ok f && (lo.ok f && hi.ok f)
theorem E.den_ok {f : Nat → Bool} {ρ ρ' : Env} (h : ∀ m, f m = true → ρ' m = ρ m) : ∀ e : E, e.ok f = true → e.den ρ' = e.den ρ := by
  intro e
  induction e with
  | v m => intro he; exact h m he
  | ki | kb | lnil | rnil => intro _; rfl
  | op1 o a ia => intro he; simp only [E.den]; rw [ia he]
  | op2 o a b ia ib =>
    intro he
    simp only [E.ok, Bool.and_eq_true] at he
    simp only [E.den]; rw [ia he.1, ib he.2]
  | iteI c a b ic ia ib =>
    intro he
    simp only [E.ok, Bool.and_eq_true] at he
    simp only [E.den]; rw [ic he.1, ia he.2.1, ib he.2.2]
  | iteB c a b ic ia ib =>
    intro he
    simp only [E.ok, Bool.and_eq_true] at he
    simp only [E.den]; rw [ic he.1, ia he.2.1, ib he.2.2]
  | iteL c a b ic ia ib =>
    intro he
    simp only [E.ok, Bool.and_eq_true] at he
    simp only [E.den]; rw [ic he.1, ia he.2.1, ib he.2.2]
  | len l il => intro he; simp only [E.den]; rw [il he]
  | sub l a b il ia ib =>
    intro he
    simp only [E.ok, Bool.and_eq_true] at he
    simp only [E.den]; rw [il he.1, ia he.2.1, ib he.2.2]

/-! ### What a column, a cell, a value stands for -/
inductive BC where
  | int (k : IntKind)
  | bool
  | opq
  deriving DecidableEq
def BC.rep : BC → LV → Value → Prop
  | .int k, x, v => v = .int k x.I
  | .bool, x, v => v = .bool x.B
  | .opq, x, v => v = x.O ∧ v.oneCell' = true
inductive Col where
  | base (c : BC)
  | sl (cols : List BC)
  deriving DecidableEq
/-- Rows of cells at an address: readable, and not among the blocks that are written. -/
def RowsAt (w : World) (Tr : Nat → Prop) (cols : List BC) (rows : List (List LV)) (g off : Nat) : Prop :=
  g < w.heap.size ∧ ¬ Tr g ∧ ∀ (i j : Nat) (r : List LV) (x : LV) (c : BC), rows[i]? = some r → r[j]? = some x → cols[j]? = some c →
    ∃ u, w.cell? ⟨g, off + (i * cols.length + j), none⟩ = some u ∧ c.rep x u
def SlRep (w : World) (Tr : Nat → Prop) (cols : List BC) (rows : List (List LV)) (v : Value) : Prop :=
  ∃ a cap, v = .slice a rows.length cap ∧ rows.length ≤ cap ∧ rows.length ≤ 9223372036854775807 ∧ (∀ r, r ∈ rows → r.length = cols.length) ∧
    (rows ≠ [] → ∃ g off, a = some ⟨g, off, none⟩ ∧ RowsAt w Tr cols rows g off)
def Col.rep (w : World) (Tr : Nat → Prop) : Col → LV → Value → Prop
  | .base c, x, v => c.rep x v
  | .sl cols, x, v => SlRep w Tr cols x.L v

inductive CV where
  | ex (c : Col) (e : E)
  | ptr (b o : Nat)
  | nilp
  | nils
  | fn (f : Nat)
  | el (cols : List BC) (l i : E) (j : Nat)
  | tsl (cols : List BC) (e : E)
  deriving DecidableEq
inductive V1 where
  | cell (c : CV)
  | agg (cs : List CV)
  deriving DecidableEq
inductive V2 where
  | one (x : V1)
  | tup (vs : List V1)
  | opt (c : E) (x : V1)
  | undef
  deriving DecidableEq

/-- What the symbols of blocks are: their numbers, and which are alive. -/
structure Blk where
  at_ : Nat → Nat
  live : Nat → Prop
  av : Nat → Prop
/-- The blocks that are written. -/
def Blk.trk (β : Blk) (n : Nat) : Prop := ∃ b, β.live b ∧ β.at_ b = n
/-- The blocks in which no rows lie: those, and the caller's. -/
def Blk.avoid (β : Blk) (n : Nat) : Prop := β.av n ∨ β.trk n

def CV.rep (ρ : Env) (β : Blk) (w : World) : CV → Value → Prop
  | .ex c e, v => c.rep w β.avoid (e.den ρ) v
  | .ptr b o, v => β.live b ∧ v = .pointer (some ⟨β.at_ b, o, none⟩)
  | .nilp, v => v = .pointer none
  | .nils, v => v = .slice none 0 0
  | .fn f, v => v = .func (.func f) #[] #[]
  | .el cols l i j, v => ∃ g off, v = .pointer (some ⟨g, off + ((i.den ρ).I.toNat * cols.length + j), none⟩) ∧ RowsAt w β.avoid cols (l.den ρ).L g off ∧
      (i.den ρ).I.toNat < (l.den ρ).L.length ∧ (∀ r, r ∈ (l.den ρ).L → r.length = cols.length)
  | .tsl cols e, v => SlRep w β.avoid cols (e.den ρ).L v ∧ ∃ a n, v = .slice a n n
/-- Two lists, one by one. -/
inductive All2 {α γ : Type} (R : α → γ → Prop) : List α → List γ → Prop where
  | nil : All2 R [] []
  | cons {x : α} {y : γ} {xs : List α} {ys : List γ} (h : R x y) (t : All2 R xs ys) : All2 R (x :: xs) (y :: ys)
def V1.rep (ρ : Env) (β : Blk) (w : World) : V1 → Value → Prop
  | .cell c, v => c.rep ρ β w v
  | .agg cs, v => ∃ us : List Value, v = .agg us.toArray ∧ All2 (CV.rep ρ β w) cs us
def V2.rep (ρ : Env) (β : Blk) (w : World) : V2 → Value → Prop
  | .one x, v => x.rep ρ β w v
  | .tup xs, v => ∃ us : List Value, v = .tuple us.toArray ∧ All2 (V1.rep ρ β w) xs us
  | .opt c x, v => if (c.den ρ).B then x.rep ρ β w v else v = Go.undef
  | .undef, v => v = Go.undef

theorem BC.oneCell {c : BC} {x : LV} {v : Value} (h : c.rep x v) : v.oneCell' = true := by
  cases c <;> simp only [BC.rep] at h
  · subst h; rfl
  · subst h; rfl
  · exact h.2
theorem Col.oneCell {w : World} {Tr : Nat → Prop} {c : Col} {x : LV} {v : Value} (h : c.rep w Tr x v) : v.oneCell' = true := by
  cases c with
  | base c => exact BC.oneCell h
  | sl cols => obtain ⟨a, cap, rfl, _⟩ := h; rfl
theorem CV.oneCell {ρ : Env} {β : Blk} {w : World} {c : CV} {v : Value} (h : c.rep ρ β w v) : v.oneCell' = true := by
  cases c <;> simp only [CV.rep] at h
  · exact Col.oneCell h
  · obtain ⟨_, rfl⟩ := h; rfl
  · subst h; rfl
  · subst h; rfl
  · subst h; rfl
  · obtain ⟨g, off, rfl, _⟩ := h; rfl
  · obtain ⟨_, a, n, rfl⟩ := h; rfl

theorem All2.length {α γ : Type} {R : α → γ → Prop} {xs : List α} {ys : List γ} (h : All2 R xs ys) : xs.length = ys.length := by
  induction h with
  | nil => rfl
  | cons _ _ ih => simp [ih]
theorem All2.mono {α γ : Type} {R R' : α → γ → Prop} {xs : List α} {ys : List γ} (h : All2 R xs ys) (hr : ∀ x y, R x y → R' x y) : All2 R' xs ys := by
  induction h with
  | nil => exact .nil
  | cons h _ ih => exact .cons (hr _ _ h) ih
theorem All2.get {α γ : Type} {R : α → γ → Prop} {xs : List α} {ys : List γ} (h : All2 R xs ys) : ∀ {i : Nat} {x : α}, xs[i]? = some x → ∃ y, ys[i]? = some y ∧ R x y := by
  induction h with
  | nil => intro i x hx; simp at hx
  | cons h _ ih =>
    intro i x hx
    cases i with
    | zero => simp at hx; subst hx; exact ⟨_, rfl, h⟩
    | succ i => simpa using ih (by simpa using hx)

/-! ### How it lasts -/
/-- Memory has grown; what was there and is not tracked is as it was. -/
structure Ext (Tr : Nat → Prop) (w w' : World) : Prop where
  os : w'.os = w.os
  tape : w'.tape = w.tape
  output : w'.output = w.output
  size : w.heap.size ≤ w'.heap.size
  same : ∀ i, i < w.heap.size → ¬ Tr i → w'.heap[i]? = w.heap[i]?
theorem Ext.refl (Tr : Nat → Prop) (w : World) : Ext Tr w w := ⟨rfl, rfl, rfl, Nat.le_refl _, fun _ _ _ => rfl⟩
theorem Ext.trans {Tr : Nat → Prop} {a b c : World} (h : Ext Tr a b) (k : Ext Tr b c) : Ext Tr a c :=
  ⟨k.os.trans h.os, k.tape.trans h.tape, k.output.trans h.output, Nat.le_trans h.size k.size, fun i hi ht => (k.same i (Nat.lt_of_lt_of_le hi h.size) ht).trans (h.same i hi ht)⟩
theorem Ext.mono {Tr Tr' : Nat → Prop} {w w' : World} (h : Ext Tr w w') (ht : ∀ i, i < w.heap.size → Tr i → Tr' i) : Ext Tr' w w' :=
  ⟨h.os, h.tape, h.output, h.size, fun i hi hn => h.same i hi (fun t => hn (ht i hi t))⟩
/-- The block symbols go on: the old ones as they were, new ones behind what was there. -/
structure Grow (w : World) (β β' : Blk) : Prop where
  keep : ∀ b, β.live b → β'.live b ∧ β'.at_ b = β.at_ b
  new : ∀ b, β'.live b → (β.live b ∧ β'.at_ b = β.at_ b) ∨ w.heap.size ≤ β'.at_ b
  av : β'.av = β.av
theorem Grow.refl (w : World) (β : Blk) : Grow w β β := ⟨fun _ h => ⟨h, rfl⟩, fun _ h => .inl ⟨h, rfl⟩, rfl⟩
theorem Grow.avoid {w : World} {β β' : Blk} (h : Grow w β β') {g : Nat} (hg : g < w.heap.size) (ht : ¬ β.avoid g) : ¬ β'.avoid g := by
  rintro (ha | ⟨b, hb, he⟩)
  · rw [h.av] at ha; exact ht (.inl ha)
  · rcases h.new b hb with ⟨h1, h2⟩ | h1
    · exact ht (.inr ⟨b, h1, h2.symm.trans he⟩)
    · omega
theorem cell_of_heap {w w' : World} {a : Addr} (h : w'.heap[a.block]? = w.heap[a.block]?) : w'.cell? a = w.cell? a := by
  simp only [World.cell?, h]
theorem frozen_of_heap {w w' : World} {a : Addr} (h : w'.heap[a.block]? = w.heap[a.block]?) : w'.frozen? a = w.frozen? a := by
  simp only [World.frozen?, h]
theorem RowsAt.lasts {w w' : World} {Tr Tr' : Nat → Prop} {cols : List BC} {rows : List (List LV)} {g off : Nat} (h : RowsAt w Tr cols rows g off)
    (hs : w.heap.size ≤ w'.heap.size) (hsame : ∀ i, i < w.heap.size → ¬ Tr i → w'.heap[i]? = w.heap[i]?) (ht : ∀ i, i < w.heap.size → ¬ Tr i → ¬ Tr' i) : RowsAt w' Tr' cols rows g off := by
  obtain ⟨h1, h2, h3⟩ := h
  refine ⟨Nat.lt_of_lt_of_le h1 hs, ht _ h1 h2, fun i j r x c hr hx hc => ?_⟩
  obtain ⟨u, hu, hrep⟩ := h3 i j r x c hr hx hc
  exact ⟨u, (cell_of_heap (hsame g h1 h2)).trans hu, hrep⟩
theorem SlRep.lasts {w w' : World} {Tr Tr' : Nat → Prop} {cols : List BC} {rows : List (List LV)} {v : Value} (h : SlRep w Tr cols rows v)
    (hs : w.heap.size ≤ w'.heap.size) (hsame : ∀ i, i < w.heap.size → ¬ Tr i → w'.heap[i]? = w.heap[i]?) (ht : ∀ i, i < w.heap.size → ¬ Tr i → ¬ Tr' i) : SlRep w' Tr' cols rows v := by
  obtain ⟨a, cap, h1, h2, h3, h4, h5⟩ := h
  refine ⟨a, cap, h1, h2, h3, h4, fun hne => ?_⟩
  obtain ⟨g, off, h6, h7⟩ := h5 hne
  exact ⟨g, off, h6, h7.lasts hs hsame ht⟩
theorem Col.lasts {w w' : World} {Tr Tr' : Nat → Prop} {c : Col} {x : LV} {v : Value} (h : c.rep w Tr x v)
    (hs : w.heap.size ≤ w'.heap.size) (hsame : ∀ i, i < w.heap.size → ¬ Tr i → w'.heap[i]? = w.heap[i]?) (ht : ∀ i, i < w.heap.size → ¬ Tr i → ¬ Tr' i) : c.rep w' Tr' x v := by
  cases c with
  | base c => exact h
  | sl cols => exact SlRep.lasts h hs hsame ht
section
variable {ρ : Env} {β β' : Blk} {w w' : World}
theorem CV.lasts {c : CV} {v : Value} (h : c.rep ρ β w v) (he : Ext β.trk w w') (hg : Grow w β β') : c.rep ρ β' w' v := by
  cases c <;> simp only [CV.rep] at h ⊢
  · exact Col.lasts h he.size (fun i hi hn => he.same i hi (fun t => hn (.inr t))) (fun i hi hn => hg.avoid hi hn)
  · obtain ⟨h1, rfl⟩ := h
    have := hg.keep _ h1
    exact ⟨this.1, by rw [this.2]⟩
  · exact h
  · exact h
  · exact h
  · obtain ⟨g, off, h1, h2, h3, h4⟩ := h
    exact ⟨g, off, h1, h2.lasts he.size (fun i hi hn => he.same i hi (fun t => hn (.inr t))) (fun i hi hn => hg.avoid hi hn), h3, h4⟩
  · exact ⟨SlRep.lasts h.1 he.size (fun i hi hn => he.same i hi (fun t => hn (.inr t))) (fun i hi hn => hg.avoid hi hn), h.2⟩
theorem V1.lasts {x : V1} {v : Value} (h : x.rep ρ β w v) (he : Ext β.trk w w') (hg : Grow w β β') : x.rep ρ β' w' v := by
  cases x with
  | cell c => exact CV.lasts h he hg
  | agg cs =>
    obtain ⟨us, h1, h2⟩ := h
    exact ⟨us, h1, h2.mono fun _ _ h => CV.lasts h he hg⟩
theorem V2.lasts {x : V2} {v : Value} (h : x.rep ρ β w v) (he : Ext β.trk w w') (hg : Grow w β β') : x.rep ρ β' w' v := by
  cases x with
  | one x => exact V1.lasts h he hg
  | tup xs =>
    obtain ⟨us, h1, h2⟩ := h
    exact ⟨us, h1, h2.mono fun _ _ h => V1.lasts h he hg⟩
  | opt c x =>
    simp only [V2.rep] at h ⊢
    split <;> rename_i hc
    · rw [if_pos hc] at h; exact V1.lasts h he hg
    · rw [if_neg hc] at h; exact h
  | undef => exact h
end

/-! ### The environment: what says nothing of later variables -/
def CV.ok (f : Nat → Bool) : CV → Bool
  | .ex _ e => e.ok f
  | .el _ l i _ => l.ok f && i.ok f
  | .tsl _ e => e.ok f
  | _ => true
def V1.ok (f : Nat → Bool) : V1 → Bool
  | .cell c => c.ok f
  | .agg cs => cs.all (·.ok f)
def V2.ok (f : Nat → Bool) : V2 → Bool
  | .one x => x.ok f
  | .tup xs => xs.all (·.ok f)
  | .opt c x => c.ok f && x.ok f
  | .undef => true
section
variable {ρ ρ' : Env} {β : Blk} {w : World} {f : Nat → Bool}
theorem CV.env (h : ∀ m, f m = true → ρ' m = ρ m) {c : CV} {v : Value} (hb : c.ok f = true) (hr : c.rep ρ β w v) : c.rep ρ' β w v := by
  cases c <;> simp only [CV.rep, CV.ok, Bool.and_eq_true] at *
  · rw [E.den_ok h _ hb]; exact hr
  · exact hr
  · exact hr
  · exact hr
  · exact hr
  · rw [E.den_ok h _ hb.1, E.den_ok h _ hb.2]; exact hr
  · rw [E.den_ok h _ hb]; exact hr
theorem All2.env {α γ : Type} {R R' : α → γ → Prop} {p : α → Bool} {xs : List α} {ys : List γ} (h : All2 R xs ys) (hp : xs.all p = true) (hr : ∀ x y, p x = true → R x y → R' x y) : All2 R' xs ys := by
  induction h with
  | nil => exact .nil
  | cons h _ ih =>
    simp only [List.all_cons, Bool.and_eq_true] at hp
    exact .cons (hr _ _ hp.1 h) (ih hp.2)
theorem V1.env (h : ∀ m, f m = true → ρ' m = ρ m) {x : V1} {v : Value} (hb : x.ok f = true) (hr : x.rep ρ β w v) : x.rep ρ' β w v := by
  cases x with
  | cell c => exact CV.env h hb hr
  | agg cs =>
    obtain ⟨us, h1, h2⟩ := hr
    exact ⟨us, h1, h2.env hb fun _ _ hp hr => CV.env h hp hr⟩
theorem V2.env (h : ∀ m, f m = true → ρ' m = ρ m) {x : V2} {v : Value} (hb : x.ok f = true) (hr : x.rep ρ β w v) : x.rep ρ' β w v := by
  cases x with
  | one x => exact V1.env h hb hr
  | tup xs =>
    obtain ⟨us, h1, h2⟩ := hr
    exact ⟨us, h1, h2.env hb fun _ _ hp hr => V1.env h hp hr⟩
  | opt c x =>
    simp only [V2.ok, Bool.and_eq_true] at hb
    simp only [V2.rep] at hr ⊢
    rw [E.den_ok h _ hb.1]
    split <;> rename_i hc
    · rw [if_pos hc] at hr; exact V1.env h hb.2 hr
    · rw [if_neg hc] at hr; exact hr
  | undef => exact hr
end
end Go.Proofs.Ythhnnfmfeofknaa.Sy
