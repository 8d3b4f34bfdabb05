/-
  A symbolic evaluator for the model's code, part B: the symbolic state, when it fits a frame and a world, and how one operation takes it on.
-/
import Derived.Test.YthhnnfmfeofknaaSyA
namespace Go.Proofs.Ythhnnfmfeofknaa.Sy
open Go Go.RowKit
set_option linter.unusedSimpArgs false
set_option linter.unusedVariables false

/-- A place: (0, t) a temporary; (1, b) that block b is alive; (b + 2, o) a cell of block b. -/
abbrev Loc := Nat × Nat
abbrev Sm := Loc → Option V2
abbrev St := List (Loc × Option V2)
def look : St → Loc → Option (Option V2)
  | [], _ => none
  | (k, x) :: r, l => if k.1 = l.1 ∧ k.2 = l.2 then some x else look r l
def upd (S : Sm) (ws : St) : Sm := fun l => (look ws l).getD (S l)
def St.get (s : St) : Sm := fun l => (look s l).getD none
theorem look_append (r s : St) (l : Loc) : look (r ++ s) l = (look r l).or (look s l) := by
  induction r with
  | nil => rfl
  | cons x r ih =>
    obtain ⟨k, x⟩ := x
    simp only [List.cons_append, look]
    split
    · rfl
    · exact ih
theorem St.get_append (r s : St) : St.get (r ++ s) = upd (St.get s) r := by
  funext l
  simp only [St.get, upd, look_append]
  cases look r l <;> rfl
theorem look_mem {s : St} {l : Loc} {x : Option V2} (h : look s l = some x) : (l, x) ∈ s := by
  induction s with
  | nil => simp [look] at h
  | cons y s ih =>
    obtain ⟨k, y⟩ := y
    simp only [look] at h
    split at h
    · rename_i hk
      have : k = l := Prod.ext hk.1 hk.2
      subst this
      simp at h
      simp [h]
    · exact List.mem_cons_of_mem _ (ih h)

def blk (av : Nat → Prop) (p : Nat → Nat) (S : Sm) : Blk := ⟨p, fun b => (S (1, b)).isSome = true, av⟩
/-- The mark of a block that is alive: how many cells. -/
def mark (n : Nat) : V2 := .one (.cell (.fn n))
structure Ctx where
  w0 : World
  np : Nat
  pb : Nat → Nat
  nt : Nat
  av : Nat → Prop
  ro : List Nat
/-- The cells of a symbolic block. -/
def CellOk (ρ : Env) (β : Blk) (w : World) (g o : Nat) (x : V2) : Prop :=
  ∃ c u, x = .one (.cell c) ∧ w.cell? ⟨g, o, none⟩ = some u ∧ c.rep ρ β w u ∧ w.frozen? ⟨g, o, none⟩ = false
structure Mt (C : Ctx) (ρ : Env) (p : Nat → Nat) (S : Sm) (a : Act) (w : World) : Prop where
  defers : a.defers = []
  size : a.tmps.size = C.nt
  tmp : ∀ t x, S (0, t) = some x → x.rep ρ (blk C.av p S) w (a.tmps.getD t Go.undef)
  cell : ∀ b o x m, S (1, b) = some (mark m) → o < m → S (b + 2, o) = some x → CellOk ρ (blk C.av p S) w (p b) o x
  live : ∀ b, (S (1, b)).isSome = true → p b < w.heap.size ∧ (C.np ≤ b → C.w0.heap.size ≤ p b)
  inj : ∀ b b', (S (1, b)).isSome = true → (S (1, b')).isSome = true → p b = p b' → b = b'
  par : ∀ b, b < C.np → p b = C.pb b
  kept : ∀ i, i < C.w0.heap.size → (∀ b, b < C.np → b ∉ C.ro → C.pb b ≠ i) → w.heap[i]? = C.w0.heap[i]?
  os : w.os = C.w0.os
  tape : w.tape = C.w0.tape
  output : w.output = C.w0.output
  grown : C.w0.heap.size ≤ w.heap.size
  avlt : ∀ i, C.av i → i < C.w0.heap.size
def dw (d : Option Tmp) (x : V2) : St :=
  match d with
  | some d => [((0, d), some x)]
  | none => []
theorem look_dw_ne {d : Option Tmp} {x : V2} {l : Loc} (h : l.1 ≠ 0) : look (dw d x) l = none := by
  cases d with
  | none => rfl
  | some d =>
    simp only [dw, look]
    rw [if_neg (fun h' => h h'.1.symm)]
theorem upd_dw {S : Sm} {d : Option Tmp} {x : V2} {l : Loc} (h : l.1 ≠ 0) : upd S (dw d x) l = S l := by
  simp only [upd, look_dw_ne h, Option.getD_none]
theorem blk_dw {av : Nat → Prop} {p : Nat → Nat} {S : Sm} {d : Option Tmp} {x : V2} : blk av p (upd S (dw d x)) = blk av p S := by
  simp only [blk]
  congr 1
  funext b
  rw [upd_dw (l := (1, b)) (by simp)]
theorem put_size (a : Act) (d : Option Tmp) (v : Value) : (a.put d v).tmps.size = a.tmps.size := by
  cases d <;> simp [Act.put]
theorem put_defers (a : Act) (d : Option Tmp) (v : Value) : (a.put d v).defers = a.defers := by
  cases d <;> rfl
/-- Every place that the writes of an operation to memory name is no temporary. -/
def memOnly (ws : St) : Prop := ∀ l x, look ws l = some x → l.1 ≠ 0
theorem upd_mem {S : Sm} {ws : St} (h : memOnly ws) (t : Nat) : upd S ws (0, t) = S (0, t) := by
  simp only [upd]
  cases hl : look ws (0, t) with
  | none => rfl
  | some x => exact absurd rfl (h _ _ hl)

section
variable {C : Ctx} {ρ : Env} {p p' : Nat → Nat} {S : Sm} {a : Act} {w w' : World}
theorem Mt.trk_lt (h : Mt C ρ p S a w) {i : Nat} (ht : (blk C.av p S).trk i) : i < w.heap.size := by
  obtain ⟨b, hb, rfl⟩ := ht
  exact (h.live b hb).1
/-- ONE OPERATION: what it may have done to the world, and that the state that follows fits again. -/
theorem Mt.step (h : Mt C ρ p S a w) (ws : St) (d : Option Tmp) (x : V2) (v : Value) (hm : memOnly ws) (hd : ∀ t, d = some t → t < C.nt)
    (hx : Ext (blk C.av p S).trk w w') (hro : ∀ b, b ∈ C.ro → (S (1, b)).isSome = true → w'.heap[p b]? = w.heap[p b]?)
    (hp : ∀ b, (S (1, b)).isSome = true → p' b = p b) (hpar : ∀ b, b < C.np → p' b = p b)
    (hlive : ∀ b, (S (1, b)).isSome = true → (upd S ws (1, b)).isSome = true)
    (hnew : ∀ b, (upd S ws (1, b)).isSome = true → (S (1, b)).isSome = true ∨ (w.heap.size ≤ p' b ∧ p' b < w'.heap.size))
    (hinj : ∀ b b', (upd S ws (1, b)).isSome = true → (upd S ws (1, b')).isSome = true → p' b = p' b' → b = b')
    (hcells : ∀ b o x m, upd S ws (1, b) = some (mark m) → o < m → look ws (b + 2, o) = some (some x) → CellOk ρ (blk C.av p' (upd S ws)) w' (p' b) o x)
    (hold : ∀ b o m, upd S ws (1, b) = some (mark m) → o < m → look ws (b + 2, o) = none → (S (b + 2, o)).isSome = true → S (1, b) = some (mark m) ∧ w'.cell? ⟨p b, o, none⟩ = w.cell? ⟨p b, o, none⟩ ∧ w'.frozen? ⟨p b, o, none⟩ = w.frozen? ⟨p b, o, none⟩)
    (hxrep : x.rep ρ (blk C.av p' (upd S ws)) w' v) :
    Mt C ρ p' (upd (upd S ws) (dw d x)) (a.put d v) w' := by
  have hg : Grow w (blk C.av p S) (blk C.av p' (upd S ws)) := by
    refine ⟨fun b hb => ⟨hlive b hb, hp b hb⟩, fun b hb => ?_, rfl⟩
    rcases hnew b hb with h1 | h1
    · exact .inl ⟨h1, hp b h1⟩
    · exact .inr h1.1
  have hlv : ∀ b, (upd (upd S ws) (dw d x) (1, b)).isSome = true ↔ (upd S ws (1, b)).isSome = true := fun b => by rw [upd_dw (l := (1, b)) (by simp)]
  refine ⟨by rw [put_defers]; exact h.defers, by rw [put_size]; exact h.size, ?_, ?_, ?_, ?_, ?_, ?_, hx.os.trans h.os, hx.tape.trans h.tape, hx.output.trans h.output, Nat.le_trans h.grown hx.size, h.avlt⟩
  · intro t y hy
    rw [blk_dw]
    have old : upd S ws (0, t) = some y → ∀ a' : Act, a'.tmps.getD t Go.undef = a.tmps.getD t Go.undef → y.rep ρ (blk C.av p' (upd S ws)) w' (a'.tmps.getD t Go.undef) := by
      intro h1 a' h2
      rw [upd_mem hm] at h1
      rw [h2]
      exact V2.lasts (h.tmp t y h1) hx hg
    cases d with
    | none => exact old (by simpa [upd, dw, look] using hy) _ rfl
    | some d =>
      by_cases hdt : d = t
      · subst hdt
        have : y = x := by simpa [upd, dw, look] using hy.symm
        subst this
        have hlt : d < a.tmps.size := by rw [h.size]; exact hd d rfl
        have : (a.put (some d) v).tmps.getD d Go.undef = v := by
          simp [Act.put, Array.getD, hlt]
        rw [this]; exact hxrep
      · refine old ?_ _ ?_
        · simpa [upd, dw, look, hdt] using hy
        · simp [Act.put, Array.getD_eq_getD_getElem?, Array.getElem?_setIfInBounds_ne hdt]
  · intro b o y m hb hm' hy
    rw [blk_dw]
    rw [upd_dw (l := (1, b)) (by simp)] at hb
    rw [upd_dw (l := (b + 2, o)) (by simp)] at hy
    cases hl : look ws (b + 2, o) with
    | some z =>
      have : z = some y := by simpa [upd, hl] using hy
      subst this
      exact hcells b o y m hb hm' hl
    | none =>
      have hy' : S (b + 2, o) = some y := by simpa [upd, hl] using hy
      obtain ⟨h0, h1, h2⟩ := hold b o m hb hm' hl (by rw [hy']; rfl)
      have h00 : (S (1, b)).isSome = true := by rw [h0]; rfl
      obtain ⟨c, u, h3, h4, h5, h6⟩ := h.cell b o y m h0 hm' hy'
      exact ⟨c, u, h3, by rw [hp b h00, h1]; exact h4, CV.lasts h5 hx hg, by rw [hp b h00, h2]; exact h6⟩
  · intro b hb
    rw [hlv] at hb
    rcases hnew b hb with h1 | h1
    · rw [hp b h1]; exact ⟨Nat.lt_of_lt_of_le (h.live b h1).1 hx.size, (h.live b h1).2⟩
    · exact ⟨h1.2, fun _ => Nat.le_trans h.grown h1.1⟩
  · intro b b' hb hb' he
    rw [hlv] at hb hb'
    exact hinj b b' hb hb' he
  · intro b hb
    rw [hpar b hb]; exact h.par b hb
  · intro i hi hne
    by_cases htr : (blk C.av p S).trk i
    · obtain ⟨b, hb, he⟩ := htr
      by_cases hlt : b < C.np
      · by_cases hbr : b ∈ C.ro
        · have h1 := hro b hbr hb
          have he : p b = i := he
          rw [he] at h1
          rw [h1]
          exact h.kept i hi hne
        · exact absurd ((h.par b hlt).symm.trans he) (hne b hlt hbr)
      · have := (h.live b hb).2 (by omega)
        simp only [blk] at he
        omega
    · rw [hx.same i (Nat.lt_of_lt_of_le hi h.grown) htr]
      exact h.kept i hi hne
/-- An operation that only computes. -/
theorem Mt.pure (h : Mt C ρ p S a w) (d : Option Tmp) (x : V2) (v : Value) (hd : ∀ t, d = some t → t < C.nt) (hx : x.rep ρ (blk C.av p S) w v) :
    Mt C ρ p (upd S (dw d x)) (a.put d v) w := by
  have h0 : upd S [] = S := by funext l; rfl
  have := h.step (p' := p) (w' := w) [] d x v (fun l y hl => by simp [look] at hl) hd (Ext.refl _ _) (fun _ _ _ => rfl) (fun _ _ => rfl) (fun _ _ => rfl) (fun b hb => by rw [h0]; exact hb)
    (fun b hb => .inl (by rw [h0] at hb; exact hb)) (fun b b' hb hb' he => h.inj b b' (by rw [h0] at hb; exact hb) (by rw [h0] at hb'; exact hb') he) (fun b o y m _ _ hl => by simp [look] at hl)
    (fun b o m hb _ _ _ => ⟨by rw [h0] at hb; exact hb, rfl, rfl⟩) (by rw [h0]; exact hx)
  rw [h0] at this
  exact this
/-- The state fits in another environment that agrees on all that it speaks of. -/
theorem Mt.env (h : Mt C ρ p S a w) {ρ' : Env} {f : Nat → Bool} (hf : ∀ m, f m = true → ρ' m = ρ m) (hS : ∀ l x, S l = some x → x.ok f = true) : Mt C ρ' p S a w := by
  refine ⟨h.defers, h.size, fun t x hx => V2.env hf (hS _ _ hx) (h.tmp t x hx), fun b o x m h1 h2 hx => ?_, h.live, h.inj, h.par, h.kept, h.os, h.tape, h.output, h.grown, h.avlt⟩
  obtain ⟨c, u, rfl, g1, g2, g3⟩ := h.cell b o x m h1 h2 hx
  exact ⟨c, u, rfl, g1, CV.env hf (hS _ _ hx) g2, g3⟩
/-- The state that knows less fits too. -/
theorem Mt.less (h : Mt C ρ p S a w) {S' : Sm} (hlive0 : ∀ b x, S' (1, b) = some x → S (1, b) = some x)
    (htmp : ∀ t x, S' (0, t) = some x → ∃ y, S (0, t) = some y ∧ ∀ v, y.rep ρ (blk C.av p S) w v → x.rep ρ (blk C.av p S') w v)
    (hcell : ∀ b o x m, S' (1, b) = some (mark m) → o < m → S' (b + 2, o) = some x → ∃ y, S (b + 2, o) = some y ∧ ∀ c, y = .one (.cell c) → ∃ c', x = .one (.cell c') ∧ ∀ v, c.rep ρ (blk C.av p S) w v → c'.rep ρ (blk C.av p S') w v) :
    Mt C ρ p S' a w := by
  have hlive : ∀ b, (S' (1, b)).isSome = true → (S (1, b)).isSome = true := fun b hb => by
    obtain ⟨x, hx⟩ := Option.isSome_iff_exists.1 hb
    rw [hlive0 b x hx]; rfl
  refine ⟨h.defers, h.size, ?_, ?_, fun b hb => h.live b (hlive b hb), fun b b' hb hb' => h.inj b b' (hlive b hb) (hlive b' hb'), h.par, h.kept, h.os, h.tape, h.output, h.grown, h.avlt⟩
  · intro t x hx
    obtain ⟨y, hy, hr⟩ := htmp t x hx
    exact hr _ (h.tmp t y hy)
  · intro b o x m hb hm hx
    obtain ⟨y, hy, hr⟩ := hcell b o x m hb hm hx
    obtain ⟨c, u, rfl, h1, h2, h3⟩ := h.cell b o y m (hlive0 b _ hb) hm hy
    obtain ⟨c', rfl, hr'⟩ := hr c rfl
    exact ⟨c', u, rfl, h1, hr' _ h2, h3⟩
end
end Go.Proofs.Ythhnnfmfeofknaa.Sy
