/-
  A symbolic evaluator for the model's code, part S: the arguments of a call, as the statement reads them, as leaves.
-/
import Derived.Test.YthhnnfmfeofknaaSyR
import Derived.ProofKit
namespace Go.Proofs.Ythhnnfmfeofknaa.Sy
open Go Go.RowKit
set_option linter.unusedSimpArgs false
set_option linter.unusedVariables false

def BC.fit : BC → LV → Prop
  | .int k, x => ∃ n, x = .i n ∧ k.min ≤ n ∧ n ≤ k.max
  | .bool, x => ∃ b, x = .b b
  | .opq, _ => True
def Col.fit : Col → LV → Prop
  | .base c, x => c.fit x
  | .sl cols, x => ∃ rows, x = .l rows ∧ (rows.length : Int) ≤ 9223372036854775807 ∧ ∀ r, r ∈ rows → All2 BC.fit cols r
def PFit : List PSh → List LV → Prop
  | [], ls => ls = []
  | .col c :: ps, ls => ∃ l ls', ls = l :: ls' ∧ c.fit l ∧ PFit ps ls'
  | .agg cs :: ps, ls => ∃ l1 ls', ls = l1 ++ ls' ∧ All2 Col.fit cs l1 ∧ PFit ps ls'
  | _ :: _, _ => False
def okFs (P : Program) (g : TypeId → Bool) (n : Nat) : List Field → Nat → Bool
  | [], _ => true
  | f :: fs, off => decide (f.offset = off) && (g f.type && (match colsOf P n f.type with
    | some cs => decide (P.cellsOf f.type = cs.length) && okFs P g n fs (off + cs.length)
    | none => false))
def okT (P : Program) : Nat → TypeId → Bool
  | 0, _ => false
  | n + 1, t => match P.underlying t with
    | some (.int _) => true
    | some .bool => true
    | some (.slice e) => okT P n e && (match (colsOf P n e).bind asBase with
      | some cs => decide (P.cellsOf e = cs.length ∧ 0 < cs.length)
      | none => false)
    | some (.struct fs) => okFs P (okT P n) n fs.toList 0 && (match flatOpt (fs.toList.map fun f => colsOf P n f.type) with
      | some cs => decide (P.cellsOf t = cs.length)
      | none => false)
    | _ => false

section
variable {H : Type} {enc : TypeId × Value → H} {P : Program} {w : World} {Tr : Nat → Prop}

theorem CRep.append : ∀ {c1 c2 : List Col} {l1 l2 : List LV} {u1 u2 : List Value}, CRep w Tr c1 l1 u1 → CRep w Tr c2 l2 u2 → CRep w Tr (c1 ++ c2) (l1 ++ l2) (u1 ++ u2) := by
  intro c1
  induction c1 with
  | nil => intro c2 l1 l2 u1 u2 h1 h2; cases l1 <;> cases u1 <;> first | exact h2 | exact h1.elim
  | cons c c1 ih => intro c2 l1 l2 u1 u2 h1 h2; cases l1 <;> cases u1 <;> first | exact h1.elim | exact ⟨h1.1, ih h1.2 h2⟩
theorem All2.append {α γ : Type} {R : α → γ → Prop} {a b : List α} {x y : List γ} (h1 : All2 R a x) (h2 : All2 R b y) : All2 R (a ++ b) (x ++ y) := by
  induction h1 with
  | nil => exact h2
  | cons h _ ih => exact .cons h ih
theorem CRep.len2 : ∀ {cs : List Col} {ls : List LV} {us : List Value}, CRep w Tr cs ls us → us.length = cs.length := by
  intro cs
  induction cs with
  | nil => intro ls us h; cases ls <;> cases us <;> first | rfl | exact h.elim
  | cons c cs ih => intro ls us h; cases ls <;> cases us <;> first | exact h.elim | simp [ih h.2]
/-- Cells that are numbers and truth values, as a row. -/
theorem base_row : ∀ {cs : List Col} {bs : List BC} {ls : List LV} {us : List Value}, asBase cs = some bs → CRep w Tr cs ls us → All2 Col.fit cs ls → All2 BC.fit bs ls ∧ ls.length = bs.length ∧ us.length = bs.length ∧
    ∀ (j : Nat) (x : LV) (c : BC), ls[j]? = some x → bs[j]? = some c → ∃ u, us[j]? = some u ∧ c.rep x u := by
  intro cs
  induction cs with
  | nil =>
    intro bs ls us h hr hf
    simp only [asBase, Option.some.injEq] at h
    subst h
    cases hf
    cases us with
    | nil => exact ⟨.nil, rfl, rfl, by simp⟩
    | cons _ _ => exact hr.elim
  | cons c cs ih =>
    intro bs ls us h hr hf
    cases c with
    | sl _ => simp [asBase] at h
    | base c =>
      simp only [asBase, Option.map_eq_some_iff] at h
      obtain ⟨bs', hbs, rfl⟩ := h
      cases hf with
      | cons h1 h2 =>
        cases us with
        | nil => exact hr.elim
        | cons u us =>
          obtain ⟨i1, i2, i3, i4⟩ := ih hbs hr.2 h2
          refine ⟨.cons h1 i1, by simp [i2], by simp [i3], ?_⟩
          intro j x c' hx hc
          cases j with
          | zero => simp at hx hc; subst hx hc; exact ⟨u, rfl, hr.1⟩
          | succ j => simpa using i4 j x c' (by simpa using hx) (by simpa using hc)
theorem mapM_get {α β : Type} {f : α → Option β} : ∀ {l : List α} {r : List β}, l.mapM f = some r → r.length = l.length ∧ ∀ (i : Nat) (x : α), l[i]? = some x → ∃ y, r[i]? = some y ∧ f x = some y := by
  intro l
  induction l with
  | nil => intro r h; simp at h; subst h; exact ⟨rfl, by simp⟩
  | cons a l ih =>
    intro r h
    simp only [List.mapM_cons, Option.bind_eq_bind, Option.bind_eq_some_iff, Option.pure_def, Option.some.injEq] at h
    obtain ⟨b, hb, bs, hbs, rfl⟩ := h
    obtain ⟨i1, i2⟩ := ih hbs
    refine ⟨by simp [i1], fun i x hx => ?_⟩
    cases i with
    | zero => simp at hx; subst hx; exact ⟨b, rfl, hb⟩
    | succ i => simpa using i2 i x (by simpa using hx)
theorem cell_at {g off m : Nat} {sp : Option Nat} {u : Value} (h : w.cell? ((⟨g, off, sp⟩ : Addr).add m) = some u) : w.cell? ⟨g, off + m, none⟩ = some u ∧ (m = 0 → sp = none) := by
  unfold Addr.add at h
  split at h
  · rename_i hm
    subst hm
    cases sp with
    | none => exact ⟨by simpa using h, fun _ => rfl⟩
    | some k =>
      simp only [World.cell?] at h
      split at h <;> simp at h
  · rename_i hm
    exact ⟨h, fun h0 => absurd h0 hm⟩
theorem Addr.add_add (a : Addr) (i j : Nat) (h : 0 < i ∨ a.spot = none) : (a.add i).add j = a.add (i + j) := by
  obtain ⟨g, off, sp⟩ := a
  unfold Addr.add
  by_cases hi : i = 0
  · subst hi
    simp only [Nat.zero_add, if_true]
  · rw [if_neg hi]
    by_cases hj : j = 0
    · subst hj; simp [hi]
    · rw [if_neg hj, if_neg (by omega)]
      simp; omega
/-- WHAT THE STATEMENT READS AT A TYPE IS WHAT THE LEAVES SAY. -/
theorem trod_cols : ∀ (n : Nat), (∀ (t : TypeId) (cols : List Col), colsOf P n t = some cols → okT P n t = true → ∀ {sp : Nat → Bool} {hd : Bool} (fuel : Nat) (cs : List Value) (x : DataW H × List MemPlace), DataW.trod enc P w 0 sp hd fuel t cs = some x →
    (∀ p, p ∈ x.2 → ¬ Tr p.block) → (∀ p, p ∈ x.2 → p.block < w.heap.size) → ∃ ls, CRep w Tr cols ls cs ∧ All2 Col.fit cols ls) := by
  intro n
  induction n with
  | zero => intro t cols h; simp [colsOf] at h
  | succ n ih =>
    intro t cols h hok sp hd fuel cs x hx hTr hlt
    simp only [colsOf] at h
    simp only [okT] at hok
    split at h
    · rename_i k hu
      simp only [Option.some.injEq] at h
      subst h
      obtain ⟨m, rfl, _, hw⟩ := DataW.trod_int hu hx
      simp only [Lit.wf, Bool.and_eq_true, decide_eq_true_eq] at hw
      exact ⟨[.i m], ⟨rfl, trivial⟩, .cons ⟨m, rfl, hw⟩ .nil⟩
    · rename_i hu
      simp only [Option.some.injEq] at h
      subst h
      obtain ⟨b, rfl, _⟩ := DataW.trod_bool hu hx
      exact ⟨[.b b], ⟨rfl, trivial⟩, .cons ⟨b, rfl⟩ .nil⟩
    · rename_i e hu
      rw [hu] at hok
      simp only [Option.map_eq_some_iff, Option.bind_eq_some_iff] at h
      obtain ⟨bs, ⟨cols', hcols', hbs⟩, rfl⟩ := h
      simp only [hcols', Option.bind_some, hbs, Bool.and_eq_true, decide_eq_true_eq] at hok
      obtain ⟨hok1, hok2, hok3⟩ := hok
      cases fuel with
      | zero => simp [DataW.trod] at hx
      | succ fuel =>
        unfold DataW.trod at hx
        rw [hu] at hx
        have hcase : (∃ a len cap, cs = [.slice (some a) len cap]) ∨ cs = [.slice none 0 0] := by
          revert hx
          split <;> intro hx <;> first | (exact .inr rfl) | (exact .inl ⟨_, _, _, rfl⟩) | (exfalso; simp_all; done)
        rcases hcase with ⟨a, len, cap, rfl⟩ | rfl
        · simp only at hx
          split at hx
          · rename_i hc
            obtain ⟨_, hlc, hcm⟩ := hc
            have hcm : cap ≤ 9223372036854775807 := by simpa [maxLen] using hcm
            simp only [Option.bind_eq_some_iff, Option.map_eq_some_iff] at hx
            obtain ⟨elems, hel, rest, _, rfl⟩ := hx
            obtain ⟨hl1, hl2⟩ := mapM_get hel
            simp only [List.length_range] at hl1
            obtain ⟨g, off, spt⟩ := a
            have hrow : ∀ i, i < len → ∃ ls us, CRep w Tr cols' ls us ∧ All2 Col.fit cols' ls ∧ us.length = P.cellsOf e ∧ ∀ j u, us[j]? = some u → w.cell? ⟨g, off + (i * bs.length + j), none⟩ = some u := by
              intro i hi
              obtain ⟨y, hy1, hy2⟩ := hl2 i i (by simp [hi])
              simp only [Option.bind_eq_some_iff] at hy2
              obtain ⟨cs', hcs', hy3⟩ := hy2
              have hsub : ∀ p, p ∈ y.2 → p ∈ MemPlace.row ⟨g, off, spt⟩ ((elems.length + rest.length) * P.cellsOf e) ++ List.flatMap (fun x => x.2) (elems ++ rest) := by
                intro p hp
                rw [List.mem_append, List.mem_flatMap]
                exact .inr ⟨y, List.mem_append.2 (.inl (List.mem_of_getElem? hy1)), hp⟩
              obtain ⟨ls, g1, g2⟩ := ih e cols' hcols' hok1 fuel cs' y hy3 (fun p hp => hTr p (hsub p hp)) (fun p hp => hlt p (hsub p hp))
              unfold World.cells? at hcs'
              split at hcs'
              case isFalse => simp at hcs'
              obtain ⟨m1, m2⟩ := mapM_get hcs'
              simp only [List.length_range] at m1
              refine ⟨ls, cs', g1, g2, m1, fun j u hj => ?_⟩
              have hjlt : j < P.cellsOf e := by
                rcases Nat.lt_or_ge j cs'.length with h | h
                · omega
                · rw [List.getElem?_eq_none h] at hj; simp at hj
              obtain ⟨u', hu1, hu2⟩ := m2 j j (by simp [hjlt])
              rw [hj] at hu1
              simp only [Option.some.injEq] at hu1
              subst hu1
              by_cases hi0 : 0 < i * P.cellsOf e ∨ spt = none
              · rw [Addr.add_add _ _ _ hi0] at hu2
                have := (cell_at hu2).1
                rwa [hok2] at this
              · have hi1 : i * P.cellsOf e = 0 := by omega
                rw [hi1] at hu2
                have e0 : (⟨g, off, spt⟩ : Addr).add 0 = ⟨g, off, spt⟩ := by simp [Addr.add]
                rw [e0] at hu2
                have := (cell_at hu2).1
                rw [hok2] at hi1
                rwa [hi1, Nat.zero_add]
            have hrows : ∀ m, m ≤ len → ∃ rows : List (List LV), rows.length = m ∧ (∀ r, r ∈ rows → All2 BC.fit bs r) ∧ ∀ (i j : Nat) (r : List LV) (x : LV) (c : BC), rows[i]? = some r → r[j]? = some x → bs[j]? = some c →
                ∃ u, w.cell? ⟨g, off + (i * bs.length + j), none⟩ = some u ∧ c.rep x u := by
              intro m
              induction m with
              | zero => intro _; exact ⟨[], rfl, by simp, by simp⟩
              | succ m ihm =>
                intro hm
                obtain ⟨rows, r1, r2, r3⟩ := ihm (by omega)
                obtain ⟨ls, us, c1, c2, c3, c4⟩ := hrow m (by omega)
                obtain ⟨b1, b2, b3, b4⟩ := base_row hbs c1 c2
                refine ⟨rows ++ [ls], by simp [r1], ?_, ?_⟩
                · intro r hr
                  rcases List.mem_append.1 hr with h | h
                  · exact r2 r h
                  · simp at h; subst h; exact b1
                · intro i j r x c hi hj hc
                  rcases Nat.lt_or_ge i rows.length with hlt' | hge
                  · rw [List.getElem?_append_left hlt'] at hi
                    exact r3 i j r x c hi hj hc
                  · rw [List.getElem?_append_right hge] at hi
                    have : i = m := by
                      rcases Nat.eq_or_lt_of_le hge with h | h
                      · omega
                      · rw [List.getElem?_eq_none (by simp; omega)] at hi; simp at hi
                    subst this
                    rw [r1, Nat.sub_self] at hi
                    simp at hi
                    subst hi
                    obtain ⟨u, hu1, hu2⟩ := b4 j x c hj hc
                    exact ⟨u, c4 j u hu1, hu2⟩
            obtain ⟨rows, r1, r2, r3⟩ := hrows len (Nat.le_refl _)
            refine ⟨[.l rows], ⟨⟨some ⟨g, off, spt⟩, cap, by simp only [LV.L_l, r1], by simp only [LV.L_l]; omega, by simp only [LV.L_l]; omega, fun r hr => (All2.length (r2 r hr)).symm, fun hne => ?_⟩, trivial⟩, .cons ⟨rows, rfl, by omega, r2⟩ .nil⟩
            have hpos : 0 < len := by
              rcases Nat.eq_zero_or_pos len with h | h
              · subst h; exact absurd (List.length_eq_zero_iff.1 r1) hne
              · exact h
            have hp0 : MemPlace.cell g off ∈ MemPlace.row ⟨g, off, spt⟩ ((elems.length + rest.length) * P.cellsOf e) ++ List.flatMap (fun x => x.2) (elems ++ rest) := by
              rw [List.mem_append]
              refine .inl ?_
              simp only [MemPlace.row, List.mem_map, List.mem_range]
              exact ⟨0, Nat.mul_pos (by omega) (by omega), by simp⟩
            have hspt : spt = none := by
              obtain ⟨y, hy1, hy2⟩ := hl2 0 0 (by simp [hpos])
              simp only [Option.bind_eq_some_iff] at hy2
              obtain ⟨cs', hcs', _⟩ := hy2
              unfold World.cells? at hcs'
              split at hcs'
              case isFalse => simp at hcs'
              obtain ⟨m1, m2⟩ := mapM_get hcs'
              obtain ⟨u', _, hu2⟩ := m2 0 0 (by rw [List.getElem?_range (by omega)])
              rw [Nat.zero_mul] at hu2
              have e0 : (⟨g, off, spt⟩ : Addr).add 0 = ⟨g, off, spt⟩ := by simp [Addr.add]
              rw [e0] at hu2
              exact (cell_at hu2).2 rfl
            subst hspt
            exact ⟨g, off, rfl, hlt _ hp0, hTr _ hp0, fun i j r x c => r3 i j r x c⟩
          · simp at hx
        · refine ⟨[.l []], ⟨?_, trivial⟩, .cons ⟨[], rfl, by simp, by simp⟩ .nil⟩
          exact ⟨none, 0, rfl, Nat.le_refl _, by simp, by simp, fun h => absurd rfl h⟩
    · rename_i fs hu
      rw [hu] at hok
      simp only [h, Bool.and_eq_true, decide_eq_true_eq] at hok
      obtain ⟨hok, hct⟩ := hok
      cases fuel with
      | zero => simp [DataW.trod] at hx
      | succ fuel =>
        unfold DataW.trod at hx
        rw [hu] at hx
        simp only at hx
        split at hx
        case isFalse => simp at hx
        simp only [Option.map_eq_some_iff] at hx
        obtain ⟨xs, hxs, rfl⟩ := hx
        rename_i hcl
        have key : ∀ (fl : List Field) (off : Nat) (cols : List Col) (xs : List (DataW H × List MemPlace)), flatOpt (fl.map fun f => colsOf P n f.type) = some cols → okFs P (okT P n) n fl off = true →
            fl.mapM (fun f => DataW.trod enc P w 0 sp hd fuel f.type ((cs.drop f.offset).take (P.cellsOf f.type))) = some xs → (∀ p, p ∈ xs.flatMap (·.2) → ¬ Tr p.block) → (∀ p, p ∈ xs.flatMap (·.2) → p.block < w.heap.size) →
            ∃ ls, CRep w Tr cols ls ((cs.drop off).take cols.length) ∧ All2 Col.fit cols ls := by
          intro fl
          induction fl with
          | nil =>
            intro off cols xs h1 _ _ _ _
            simp only [List.map_nil, flatOpt, Option.some.injEq] at h1
            subst h1
            exact ⟨[], by simp [CRep], .nil⟩
          | cons f fl ihf =>
            intro off cols xs h1 h2 h3 h4 h5
            simp only [List.map_cons] at h1
            simp only [okFs, Bool.and_eq_true, decide_eq_true_eq] at h2
            obtain ⟨ho, ho1, ho2⟩ := h2
            cases hc : colsOf P n f.type with
            | none => rw [hc] at ho2; simp at ho2
            | some c1 =>
              rw [hc] at ho2 h1
              simp only [Bool.and_eq_true, decide_eq_true_eq] at ho2
              simp only [flatOpt, Option.map_eq_some_iff] at h1
              obtain ⟨c2, hc2, rfl⟩ := h1
              simp only [List.mapM_cons, Option.bind_eq_bind, Option.bind_eq_some_iff, Option.pure_def, Option.some.injEq] at h3
              obtain ⟨y, hy, ys, hys, rfl⟩ := h3
              rw [ho, ho2.1] at hy
              obtain ⟨l1, g1, g2⟩ := ih f.type c1 hc ho1 fuel _ y hy (fun p hp => h4 p (by simp [hp])) (fun p hp => h5 p (by simp [hp]))
              obtain ⟨l2, g3, g4⟩ := ihf (off + c1.length) c2 ys hc2 ho2.2 hys (fun p hp => h4 p (by simp only [List.flatMap_cons, List.mem_append]; exact .inr hp)) (fun p hp => h5 p (by simp only [List.flatMap_cons, List.mem_append]; exact .inr hp))
              refine ⟨l1 ++ l2, ?_, g2.append g4⟩
              have hlen := g1.len2
              have e1 : (cs.drop off).take (c1 ++ c2).length = (cs.drop off).take c1.length ++ (cs.drop (off + c1.length)).take c2.length := by
                rw [List.length_append, List.take_add, List.drop_drop]
              rw [e1]
              exact g1.append g3
        obtain ⟨ls, k1, k2⟩ := key fs.toList 0 cols xs h hok hxs hTr hlt
        refine ⟨ls, ?_, k2⟩
        have hlen := k1.len2
        rw [List.drop_zero] at k1 hlen
        have hle : cs.length ≤ cols.length := by omega
        rw [List.take_of_length_le hle] at k1
        exact k1
    · rename_i hu; rw [hu] at hok; simp at hok
    · rename_i hu; rw [hu] at hok; simp at hok
    · rename_i hu; rw [hu] at hok; simp at hok
    · rename_i hu; rw [hu] at hok; simp at hok
    · simp at h
end
end Go.Proofs.Ythhnnfmfeofknaa.Sy
