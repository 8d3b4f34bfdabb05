/-
  A symbolic evaluator for the model's code, part G: loads, stores, new blocks.
-/
import Derived.Test.YthhnnfmfeofknaaSyF
namespace Go.Proofs.Ythhnnfmfeofknaa.Sy
open Go Go.RowKit
set_option linter.unusedSimpArgs false
set_option linter.unusedVariables false

/-- What an operation comes to: its value, what it writes, what must hold, whose results it binds (key, arguments, first variable, how many). -/
structure Ac where
  val : V2
  ws : St
  needs : List E
  bind : Option (Nat × List E × Nat × Nat)

section
variable {P : Program} {C : Ctx} {ρ : Env} {p : Nat → Nat} {S : Sm} {a : Act} {w : World}

theorem wp_value {o : Oper} {v : Value} {w' : World} {K : Act → World → Prop} {Q : Exit → Act → World → Prop} (h : (execOp a.eval o).run P w = .ok (.value v) w') (hk : K (a.put o.dst v) w') : o.wp P a w K Q := by
  unfold Oper.wp
  rw [h]
  exact hk
theorem wp_skip' {o : Oper} {w' : World} {K : Act → World → Prop} {Q : Exit → Act → World → Prop} (h : (execOp a.eval o).run P w = .ok .skip w') (hk : K (a.put o.dst Go.undef) w') : o.wp P a w K Q := by
  unfold Oper.wp
  rw [h]
  exact hk

/-! ### Cells, one behind the other -/
def locs (b o : Nat) : Nat → List Loc
  | 0 => []
  | n + 1 => (b + 2, o) :: locs b (o + 1) n
def cvsOf : List (Option V2) → Option (List CV)
  | [] => some []
  | some (.one (.cell c)) :: r => (cvsOf r).map fun cs => c :: cs
  | _ :: _ => none
theorem cvsOf_ok (hM : Mt C ρ p S a w) {b m : Nat} (hb : S (1, b) = some (mark m)) : ∀ (n o : Nat) {cs : List CV}, o + n ≤ m → cvsOf ((locs b o n).map S) = some cs →
    cs.length = n ∧ ∃ us : List Value, us.length = n ∧ All2 (CV.rep ρ (blk C.av p S) w) cs us ∧ ∀ j u, us[j]? = some u → w.cell? ⟨p b, o + j, none⟩ = some u ∧ w.frozen? ⟨p b, o + j, none⟩ = false := by
  intro n
  induction n with
  | zero => intro o cs _ h; simp only [locs, List.map_nil, cvsOf, Option.some.injEq] at h; subst h; exact ⟨rfl, [], rfl, .nil, by simp⟩
  | succ n ih =>
    intro o cs hon h
    simp only [locs, List.map_cons] at h
    cases hs : S (b + 2, o) with
    | none => rw [hs] at h; simp [cvsOf] at h
    | some x =>
      obtain ⟨c, u, rfl, h1, h2, h3⟩ := hM.cell b o x m hb (by omega) hs
      rw [hs] at h
      simp only [cvsOf, Option.map_eq_some_iff] at h
      obtain ⟨cs', hcs', rfl⟩ := h
      obtain ⟨h4, us, h5, h6, h7⟩ := ih (o + 1) (by omega) hcs'
      refine ⟨by simp [h4], u :: us, by simp [h5], .cons h2 h6, ?_⟩
      intro j u' hj
      cases j with
      | zero => simp at hj; subst hj; exact ⟨h1, h3⟩
      | succ j =>
        have := h7 j u' (by simpa using hj)
        rwa [show o + 1 + j = o + (j + 1) by omega] at this

/-! ### Loads -/
def isAggT (P : Program) (t : TypeId) : Bool :=
  match P.underlying t with
  | some (.struct _) | some (.array _ _) => true
  | _ => false
theorem run_isAgg {t : TypeId} (h : (P.underlying t).isSome = true) : (isAgg t).run P w = .ok (isAggT P t) w := by
  obtain ⟨d, hd⟩ := Option.isSome_iff_exists.1 h
  simp only [isAgg, isAggT, Sem.run_bind, run_underlying hd, Result.andThen_ok, hd]
  cases d <;> rfl
/-- The mark of a block whose cells up to n are asked for. -/
def marked (n : Nat) : Option V2 → Bool
  | some (.one (.cell (.fn m))) => decide (n ≤ m)
  | _ => false
theorem marked_ok {n : Nat} {x : Option V2} (h : marked n x = true) : ∃ m, x = some (mark m) ∧ n ≤ m := by
  unfold marked at h
  split at h
  · exact ⟨_, rfl, of_decide_eq_true h⟩
  · simp at h
def mLoad (P : Program) (t : TypeId) (o : Nat) (mk : Option V2) (cs : List (Option V2)) : Option V2 :=
  if (P.underlying t).isSome = true ∧ (P.info? t).isSome = true ∧ marked (o + P.cellsOf t) mk = true then
    match cvsOf cs with
    | some ys => if isAggT P t then some (.one (.agg ys)) else (match ys with
      | [c] => some (.one (.cell c))
      | _ => none)
    | none => none
  else none
theorem mLoad_ok (hM : Mt C ρ p S a w) {t : TypeId} {b o : Nat} {x : V2} (h : mLoad P t o (S (1, b)) ((locs b o (P.cellsOf t)).map S) = some x) :
    ∃ v, (Instr.loadAt t (.pointer (some ⟨p b, o, none⟩))).run P w = .ok v w ∧ x.rep ρ (blk C.av p S) w v := by
  unfold mLoad at h
  split at h
  case isFalse => simp at h
  rename_i hu
  obtain ⟨hu, hi, hmk⟩ := hu
  obtain ⟨m, hb, hle⟩ := marked_ok hmk
  split at h
  · rename_i ys hys
    obtain ⟨hl, us, hul, hus, hcell⟩ := cvsOf_ok hM hb _ _ hle hys
    obtain ⟨i, hi⟩ := Option.isSome_iff_exists.1 hi
    split at h
    · rename_i hagg
      simp only [Option.some.injEq] at h
      subst h
      refine ⟨.agg us.toArray, ?_, us, rfl, hus⟩
      have hload := run_loadCells_list (P := P) w (⟨p b, o, none⟩ : Addr) us (fun m u hm => by rw [Addr.add_lit]; exact (hcell m u hm).1)
      simp only [Instr.loadAt, Instr.sureAddr, loadVar, Sem.run_bind, Sem.run_pure, Result.andThen_ok, run_isAgg hu, hagg, if_true, run_sizeOf w hi]
      rw [← hul, hload]
      rfl
    · rename_i hagg
      split at h
      · rename_i c
        simp only [Option.some.injEq] at h
        subst h
        cases hus with
        | cons h1 h2 =>
          cases h2
          rename_i u
          refine ⟨u, ?_, h1⟩
          have := (hcell 0 u rfl).1
          rw [Nat.add_zero] at this
          simp only [Instr.loadAt, Instr.sureAddr, loadVar, Sem.run_bind, Sem.run_pure, Result.andThen_ok, run_isAgg hu, hagg, Bool.false_eq_true, if_false, run_load, this]
      · simp at h
  · simp at h

/-! ### Stores -/
def setN (w : World) (g : Nat) : Nat → List Value → World
  | _, [] => w
  | o, v :: r => setN (w.setCell ⟨g, o, none⟩ v) g (o + 1) r
theorem setN_os (g : Nat) : ∀ (vs : List Value) (w : World) (o : Nat), (setN w g o vs).os = w.os ∧ (setN w g o vs).tape = w.tape ∧ (setN w g o vs).output = w.output ∧ (setN w g o vs).heap.size = w.heap.size := by
  intro vs
  induction vs with
  | nil => intro w o; exact ⟨rfl, rfl, rfl, rfl⟩
  | cons v r ih =>
    intro w o
    obtain ⟨h1, h2, h3, h4⟩ := ih (w.setCell ⟨g, o, none⟩ v) (o + 1)
    exact ⟨h1, h2, h3, by simp only [setN]; rw [h4]; simp⟩
theorem setN_heap (g : Nat) : ∀ (vs : List Value) (w : World) (o k : Nat), k ≠ g → (setN w g o vs).heap[k]? = w.heap[k]? := by
  intro vs
  induction vs with
  | nil => intro w o k _; rfl
  | cons v r ih =>
    intro w o k hk
    simp only [setN]
    rw [ih _ _ _ hk, Below.heap_setCell _ _ _ _ hk]
theorem setN_frozen (g : Nat) : ∀ (vs : List Value) (w : World) (o : Nat) (b : Addr), (setN w g o vs).frozen? b = w.frozen? b := by
  intro vs
  induction vs with
  | nil => intro w o b; rfl
  | cons v r ih => intro w o b; simp only [setN]; rw [ih, World.frozen?_setCell]
theorem setN_other (g : Nat) : ∀ (vs : List Value) (w : World) (o q : Nat), (q < o ∨ o + vs.length ≤ q) → (setN w g o vs).cell? ⟨g, q, none⟩ = w.cell? ⟨g, q, none⟩ := by
  intro vs
  induction vs with
  | nil => intro w o q _; rfl
  | cons v r ih =>
    intro w o q hq
    simp only [setN]
    simp only [List.length_cons] at hq
    rw [ih _ _ _ (by omega), World.cell?_setCell_other]
    intro he
    simp only [Addr.mk.injEq, and_true, true_and] at he
    omega
theorem setN_same (g : Nat) : ∀ (vs : List Value) (w : World) (o : Nat), (∀ j, j < vs.length → (w.cell? ⟨g, o + j, none⟩).isSome = true) → ∀ j v, vs[j]? = some v → (setN w g o vs).cell? ⟨g, o + j, none⟩ = some v := by
  intro vs
  induction vs with
  | nil => intro w o _ j v h; simp at h
  | cons v r ih =>
    intro w o hex j u hj
    simp only [setN]
    obtain ⟨old, hold⟩ := Option.isSome_iff_exists.1 (hex 0 (by simp))
    rw [Nat.add_zero] at hold
    cases j with
    | zero =>
      simp only [List.getElem?_cons_zero, Option.some.injEq] at hj
      subst hj
      rw [Nat.add_zero, setN_other _ _ _ _ _ (by omega)]
      exact World.cell?_setCell_same _ _ _ hold
    | succ j =>
      have := ih (w.setCell ⟨g, o, none⟩ v) (o + 1) (fun i hi => by
        have h1 := hex (i + 1) (by simp; omega)
        rw [show o + 1 + i = o + (i + 1) by omega]
        rw [World.cell?_setCell_other]
        · exact h1
        · intro he
          simp only [Addr.mk.injEq, and_true, true_and] at he
          omega) j u (by simpa using hj)
      rwa [show o + 1 + j = o + (j + 1) by omega] at this
theorem run_storeCells_at (g o : Nat) : ∀ (vs : List Value) (i : Nat) (w : World), (∀ v, v ∈ vs → v.oneCell' = true) → (∀ j, j < vs.length → (w.cell? ⟨g, o + i + j, none⟩).isSome = true ∧ w.frozen? ⟨g, o + i + j, none⟩ = false) →
    (storeCells ⟨g, o, none⟩ vs i).run P w = .ok () (setN w g (o + i) vs) := by
  intro vs
  induction vs with
  | nil => intro i w _ _; rfl
  | cons v r ih =>
    intro i w h1 h2
    have h0 := h2 0 (by simp)
    rw [Nat.add_zero] at h0
    obtain ⟨old, hold⟩ := Option.isSome_iff_exists.1 h0.1
    have hst : (store ((⟨g, o, none⟩ : Addr).add i) v).run P w = .ok () (w.setCell ⟨g, o + i, none⟩ v) := by
      rw [Addr.add_lit, run_store P w _ v _ (h1 v (by simp)), hold]
      simp [h0.2]
    simp only [storeCells, Sem.run_bind, hst, Result.andThen_ok, setN]
    rw [show o + i + 1 = o + (i + 1) by omega]
    refine ih (i + 1) _ (fun x hx => h1 x (by simp [hx])) (fun j hj => ?_)
    have h3 := h2 (j + 1) (by simp; omega)
    rw [show o + (i + 1) + j = o + i + (j + 1) by omega]
    rw [World.cell?_setCell_other, World.frozen?_setCell]
    · exact h3
    · intro he
      simp only [Addr.mk.injEq, and_true, true_and] at he
      omega
def wsOf (b : Nat) : Nat → List CV → St
  | _, [] => []
  | o, c :: r => ((b + 2, o), some (.one (.cell c))) :: wsOf b (o + 1) r
theorem look_wsOf (b : Nat) : ∀ (cs : List CV) (o : Nat) (l : Loc), look (wsOf b o cs) l = if l.1 = b + 2 ∧ o ≤ l.2 ∧ l.2 < o + cs.length then (cs[l.2 - o]?).map (fun c => some (.one (.cell c))) else none := by
  intro cs
  induction cs with
  | nil => intro o l; simp only [wsOf, look]; rw [if_neg]; simp
  | cons c r ih =>
    intro o l
    simp only [wsOf, look, ih]
    by_cases h1 : b + 2 = l.1 ∧ o = l.2
    · rw [if_pos h1, if_pos (by simp; omega)]
      obtain ⟨_, h2⟩ := h1
      simp [h2]
    · rw [if_neg h1]
      by_cases h2 : l.1 = b + 2 ∧ o + 1 ≤ l.2 ∧ l.2 < o + 1 + r.length
      · rw [if_pos h2, if_pos (by simp; omega), show l.2 - o = (l.2 - (o + 1)) + 1 by omega]
        simp
      · rw [if_neg h2, if_neg (by simp; omega)]
def mStore (P : Program) (t : TypeId) (b o : Nat) (x : V1) (mk : Option V2) (cs : List (Option V2)) : Option St :=
  if x.cvs.length = P.cellsOf t ∧ (P.info? t).isSome = true ∧ marked (o + P.cellsOf t) mk = true then
    match cvsOf cs with
    | some _ => some (wsOf b o x.cvs)
    | none => none
  else none
theorem memOnly_wsOf (b o : Nat) (cs : List CV) : memOnly (wsOf b o cs) := by
  intro l x h
  rw [look_wsOf] at h
  split at h
  · omega
  · simp at h
theorem wsOf_live (b o : Nat) (cs : List CV) (k : Nat) : look (wsOf b o cs) (1, k) = none := by
  rw [look_wsOf, if_neg]
  simp
theorem mStore_ok (hM : Mt C ρ p S a w) {t : TypeId} {b o : Nat} {x : V1} {ws : St} {v : Value} (h : mStore P t b o x (S (1, b)) ((locs b o (P.cellsOf t)).map S) = some ws) (hbro : b ∉ C.ro)
    (hv : x.rep ρ (blk C.av p S) w v) : ∃ w', (Instr.storeAt t (.pointer (some ⟨p b, o, none⟩)) v).run P w = .ok () w' ∧
      ∀ (d : Option Tmp) (z : V2) (u : Value), (∀ t, d = some t → t < C.nt) → (∀ w β, z.rep ρ β w u) → Mt C ρ p (upd (upd S ws) (dw d z)) (a.put d u) w' := by
  unfold mStore at h
  split at h
  case isFalse => simp at h
  rename_i hc
  split at h
  · rename_i ys hys
    simp only [Option.some.injEq] at h
    subst h
    obtain ⟨hlen, hi, hmk⟩ := hc
    obtain ⟨i, hi⟩ := Option.isSome_iff_exists.1 hi
    obtain ⟨mm, hmb, hle⟩ := marked_ok hmk
    have hb : (S (1, b)).isSome = true := by rw [hmb]; rfl
    obtain ⟨hl, us, hul, hus, hcell⟩ := cvsOf_ok hM hmb _ _ hle hys
    have hcv := V1.cells_ok hv
    have hvl := hcv.length
    have hone : ∀ u, u ∈ v.cells.toList → u.oneCell' = true := by
      have : ∀ {cs : List CV} {us : List Value}, All2 (CV.rep ρ (blk C.av p S) w) cs us → ∀ u, u ∈ us → u.oneCell' = true := by
        intro cs us h
        induction h with
        | nil => intro u hu; simp at hu
        | cons h1 _ ih =>
          intro u hu
          rcases List.mem_cons.1 hu with rfl | hu
          · exact CV.oneCell h1
          · exact ih u hu
      exact this hcv
    have hex : ∀ j, j < v.cells.toList.length → (w.cell? ⟨p b, o + j, none⟩).isSome = true ∧ w.frozen? ⟨p b, o + j, none⟩ = false := by
      intro j hj
      have hj' : j < us.length := by omega
      have := hcell j us[j] (List.getElem?_eq_getElem hj')
      exact ⟨by rw [this.1]; rfl, this.2⟩
    have hrun := run_storeCells_at (P := P) (p b) o v.cells.toList 0 w hone (by simpa using hex)
    rw [Nat.add_zero] at hrun
    obtain ⟨s1, s2, s3, s4⟩ := setN_os (p b) v.cells.toList w o
    have hext : Ext (blk C.av p S).trk w (setN w (p b) o v.cells.toList) := by
      refine ⟨s1, s2, s3, by omega, fun k hk hn => setN_heap _ _ _ _ _ (fun he => hn ⟨b, hb, he.symm⟩)⟩
    have hlive : ∀ k, (upd S (wsOf b o x.cvs) (1, k)) = S (1, k) := fun k => by simp only [upd, wsOf_live, Option.getD_none]
    refine ⟨setN w (p b) o v.cells.toList, ?_, ?_⟩
    · have hsz : v.cells.size = P.cellsOf t := by simpa using hvl.symm.trans hlen
      simp only [Instr.storeAt, Instr.sureAddr, storeVar, Sem.run_bind, Sem.run_pure, Result.andThen_ok, run_sizeOf w hi]
      rw [if_neg (by simpa using hsz)]
      simp only [hrun]
    · intro d z u hd hz
      refine hM.step (p' := p) (wsOf b o x.cvs) d z u (memOnly_wsOf _ _ _) hd hext (fun b' hb' hl' => setN_heap _ _ _ _ _ (fun he => hbro (by rw [← hM.inj b' b hl' hb he]; exact hb'))) (fun _ _ => rfl) (fun _ _ => rfl) (fun k hk => by rw [hlive]; exact hk) (fun k hk => .inl (by rw [hlive] at hk; exact hk))
        (fun k k' hk hk' he => hM.inj k k' (by rw [hlive] at hk; exact hk) (by rw [hlive] at hk'; exact hk') he) ?_ ?_ (hz _ _)
      · intro k q y m hk _ hq
        rw [look_wsOf] at hq
        split at hq
        · rename_i hcond
          simp only [Option.map_eq_some_iff, Option.some.injEq] at hq
          obtain ⟨c, hcc, hy⟩ := hq
          have hkb : k = b := by have := hcond.1; simpa using this
          subst hkb
          obtain ⟨u1, hu1, hr1⟩ := hcv.get hcc
          refine ⟨c, u1, hy.symm, ?_, ?_, ?_⟩
          · have := setN_same (p k) v.cells.toList w o (fun j hj => (hex j hj).1) (q - o) u1 hu1
            have h2 := hcond.2.1
            simp only at h2
            rwa [show o + (q - o) = q by omega] at this
          · exact CV.lasts hr1 hext ⟨fun b' hb' => ⟨by show (upd S _ (1, b')).isSome = true; rw [hlive]; exact hb', rfl⟩, fun b' hb' => .inl ⟨by have : (upd S (wsOf k o x.cvs) (1, b')).isSome = true := hb'; rw [hlive] at this; exact this, rfl⟩, rfl⟩
          · rw [setN_frozen]
            have h2 := hcond.2.1
            have h3 := hcond.2.2
            simp only at h2 h3
            have := (hex (q - o) (by omega)).2
            rwa [show o + (q - o) = q by omega] at this
        · simp at hq
      · intro k q m hk _ hq hs
        rw [hlive] at hk
        have hk1 : (S (1, k)).isSome = true := by rw [hk]; rfl
        refine ⟨hk, ?_, setN_frozen _ _ _ _ _⟩
        by_cases hkb : p k = p b
        · have : k = b := hM.inj k b hk1 hb hkb
          subst this
          rw [setN_other]
          rw [look_wsOf] at hq
          split at hq
          · rename_i hcond
            simp only [Option.map_eq_none_iff] at hq
            have h3 := hcond.2.2
            have h2 := hcond.2.1
            simp only at h2 h3 hq
            rw [List.getElem?_eq_none_iff] at hq
            omega
          · rename_i hcond
            simp only [not_and, Nat.not_lt, true_and] at hcond
            omega
        · exact cell_of_heap (setN_heap _ _ _ _ _ hkb)
  · simp at h

/-! ### New blocks -/
theorem look_new (s : Nat) (cs : List CV) (n : Nat) (l : Loc) : look (((1, s), some (mark n)) :: wsOf s 0 cs) l =
    if l.1 = 1 ∧ l.2 = s then some (some (mark n)) else if l.1 = s + 2 ∧ l.2 < cs.length then (cs[l.2]?).map (fun c => some (.one (.cell c))) else none := by
  simp only [look, look_wsOf]
  by_cases h : l.1 = 1 ∧ l.2 = s
  · rw [if_pos ⟨h.1.symm, h.2.symm⟩, if_pos h]
  · rw [if_neg (fun h' => h ⟨h'.1.symm, h'.2.symm⟩), if_neg h]
    simp
theorem new_ok (hM : Mt C ρ p S a w) {s : Nat} (hs : S (1, s) = none) (hnp : C.np ≤ s) {cs : List CV} {us : List Value} (hr : All2 (CV.rep ρ (blk C.av p S) w) cs us) (t : TypeId) (d : Option Tmp) (z : V2)
    (hd : ∀ t, d = some t → t < C.nt) (hz : ∀ β w', β.live s → β.at_ s = w.heap.size → z.rep ρ β w' (.pointer (some ⟨w.heap.size, 0, none⟩))) :
    ∃ p', Mt C ρ p' (upd (upd S (((1, s), some (mark cs.length)) :: wsOf s 0 cs)) (dw d z)) (a.put d (.pointer (some ⟨w.heap.size, 0, none⟩))) (w.alloc (.cells us.toArray t)) := by
  have hlive : ∀ k, k ≠ s → upd S (((1, s), some (mark cs.length)) :: wsOf s 0 cs) (1, k) = S (1, k) := fun k hk => by
    simp only [upd, look_new]
    rw [if_neg (by simpa using hk), if_neg (by simp)]
    rfl
  have hlives : upd S (((1, s), some (mark cs.length)) :: wsOf s 0 cs) (1, s) = some (mark cs.length) := by
    simp [upd, look_new]
  have hext : Ext (blk C.av p S).trk w (w.alloc (.cells us.toArray t)) := ⟨rfl, rfl, rfl, by simp, fun i hi _ => Below.heap_alloc _ _ _ hi⟩
  refine ⟨fun b => if b = s then w.heap.size else p b, ?_⟩
  have hpk : ∀ k, k ≠ s → (if k = s then w.heap.size else p k) = p k := fun k hk => if_neg hk
  refine hM.step (p' := fun b => if b = s then w.heap.size else p b) (((1, s), some (mark cs.length)) :: wsOf s 0 cs) d z _ ?_ hd hext (fun b' _ hl' => Below.heap_alloc _ _ _ (hM.live b' hl').1) ?_ ?_ ?_ ?_ ?_ ?_ ?_ ?_
  · intro l x hl
    rw [look_new] at hl
    split at hl
    · rename_i h; omega
    · split at hl
      · rename_i h; omega
      · simp at hl
  · intro b hb
    exact hpk b (fun h => by subst h; rw [hs] at hb; simp at hb)
  · intro b hb
    exact hpk b (by omega)
  · intro b hb
    rw [hlive b (fun h => by subst h; rw [hs] at hb; simp at hb)]
    exact hb
  · intro b hb
    by_cases h : b = s
    · subst h; exact .inr ⟨by simp, by simp⟩
    · rw [hlive b h] at hb; exact .inl hb
  · intro b b' hb hb' he
    by_cases h : b = s
    · by_cases h' : b' = s
      · rw [h, h']
      · rw [hlive b' h'] at hb'
        rw [if_pos h, hpk b' h'] at he
        have := (hM.live b' hb').1
        omega
    · rw [hlive b h] at hb
      by_cases h' : b' = s
      · rw [if_pos h', hpk b h] at he
        have := (hM.live b hb).1
        omega
      · rw [hlive b' h'] at hb'
        rw [hpk b h, hpk b' h'] at he
        exact hM.inj b b' hb hb' he
  · intro b o x m hb _ hl
    rw [look_new] at hl
    split at hl
    · rename_i h; simp at h
    · split at hl
      · rename_i h
        have hbs : b = s := by have := h.1; simpa using this
        subst hbs
        simp only [Option.map_eq_some_iff, Option.some.injEq] at hl
        obtain ⟨c, hc, rfl⟩ := hl
        obtain ⟨u, hu, hru⟩ := hr.get hc
        refine ⟨c, u, rfl, ?_, ?_, ?_⟩
        · simp only [if_true]; rw [World.cell?_alloc_new]; simpa using hu
        · refine CV.lasts hru hext ⟨fun b' hb' => ⟨?_, hpk b' (fun h => ?_)⟩, fun b' hb' => ?_, rfl⟩
          · show (upd S _ (1, b')).isSome = true
            rw [hlive b' (fun h => by subst h; have : (S (1, b')).isSome = true := hb'; rw [hs] at this; simp at this)]
            exact hb'
          · subst h; have : (S (1, b')).isSome = true := hb'; rw [hs] at this; simp at this
          · by_cases h : b' = b
            · exact .inr (by show w.heap.size ≤ (if b' = b then w.heap.size else p b'); rw [if_pos h]; exact Nat.le_refl _)
            · have h2 : (upd S (((1, b), some (mark cs.length)) :: wsOf b 0 cs) (1, b')).isSome = true := hb'
              rw [hlive b' h] at h2
              exact .inl ⟨h2, hpk b' h⟩
        · simp only [if_true]; exact World.frozen?_alloc_new _ _ _ _
      · simp at hl
  · intro b o m hb hm hl hs'
    have hbs : b ≠ s := fun h => by
      subst h
      rw [hlives] at hb
      simp only [mark, Option.some.injEq, V2.one.injEq, V1.cell.injEq, CV.fn.injEq] at hb
      subst hb
      rw [look_new] at hl
      rw [if_neg (by simp), if_pos ⟨rfl, hm⟩] at hl
      simp only [Option.map_eq_none_iff] at hl
      rw [List.getElem?_eq_none_iff] at hl
      omega
    rw [hlive b hbs] at hb
    have hlt := (hM.live b (by rw [hb]; rfl)).1
    exact ⟨hb, World.cell?_alloc_lt _ _ _ hlt, World.frozen?_alloc_old _ _ _ (by simp; omega)⟩
  · exact hz _ _ (by show (upd S _ (1, s)).isSome = true; rw [hlives]; rfl) (by simp [blk])
end
end Go.Proofs.Ythhnnfmfeofknaa.Sy
