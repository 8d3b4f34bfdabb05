/-
  A symbolic evaluator for the model's code, part E: addresses, slices, and one function for all operations that only compute.
-/
import Derived.Test.YthhnnfmfeofknaaSyD
import Derived.Laws.Slices
namespace Go.Proofs.Ythhnnfmfeofknaa.Sy
open Go Go.RowKit
set_option linter.unusedSimpArgs false
set_option linter.unusedVariables false

section
variable {P : Program} {ρ : Env} {β : Blk} {w : World}

/-! ### Addresses of fields -/
def fieldOff (P : Program) (t : TypeId) (f : Nat) : Option Nat :=
  match P.underlying t with
  | some (.struct fs) => (match fs[f]? with
    | some fl => (match P.info? fl.type with
      | some i => if i.size = 0 then none else some fl.offset
      | none => none)
    | none => none)
  | _ => none
theorem fieldOff_ok {t : TypeId} {f off : Nat} (h : fieldOff P t f = some off) (g o : Nat) : (Instr.fieldAt t (.pointer (some ⟨g, o, none⟩)) f).run P w = .ok (.pointer (some ⟨g, o + off, none⟩)) w := by
  unfold fieldOff at h
  split at h
  · rename_i fs hu
    split at h
    · rename_i fl hf
      split at h
      · rename_i i hi
        split at h
        · simp at h
        · rename_i hs
          simp only [Option.some.injEq] at h
          subst h
          simp [Instr.fieldAt, run_underlying hu, hf, Instr.sureAddr, fieldPlace, sizeOf, typeInfo, hi, hs, Addr.add_lit]
      · simp at h
    · simp at h
  · simp at h
def pFieldAddr (P : Program) (t : TypeId) (f : Nat) (x : V2) : Option (V2 × List E) :=
  match x with
  | .one (.cell (.ptr b o)) => (fieldOff P t f).map fun off => (.one (.cell (.ptr b (o + off))), [])
  | .one (.cell (.el cols l i j)) => (fieldOff P t f).map fun off => (.one (.cell (.el cols l i (j + off))), [])
  | _ => none
theorem pFieldAddr_ok {t : TypeId} {f : Nat} {x z : V2} {ns : List E} (h : pFieldAddr P t f x = some (z, ns)) {v : Value} (hx : x.rep ρ β w v) :
    ∃ u, (Instr.fieldAt t v f).run P w = .ok u w ∧ z.rep ρ β w u := by
  unfold pFieldAddr at h
  split at h
  · simp only [Option.map_eq_some_iff, Prod.mk.injEq] at h
    obtain ⟨off, ho, rfl, _⟩ := h
    obtain ⟨h1, rfl⟩ := hx
    exact ⟨_, fieldOff_ok ho _ _, h1, rfl⟩
  · simp only [Option.map_eq_some_iff, Prod.mk.injEq] at h
    obtain ⟨off, ho, rfl, _⟩ := h
    obtain ⟨g, q, rfl, h2, h3, h4⟩ := hx
    refine ⟨_, fieldOff_ok ho _ _, g, q, ?_, h2, h3, h4⟩
    simp only [Value.pointer.injEq, Option.some.injEq, Addr.mk.injEq, and_true, true_and]
    omega
  · simp at h

/-! ### A field of a struct value -/
def pField (P : Program) (t : TypeId) (f : Nat) (x : V2) : Option (V2 × List E) :=
  match x, P.underlying t with
  | .one (.agg cs), some (.struct fs) => (match fs[f]? with
    | some fl => (match P.underlying fl.type with
      | some (.struct _) => (match P.info? fl.type with
        | some i => some (.one (.agg ((cs.take (fl.offset + i.size)).drop fl.offset)), [])
        | none => none)
      | some (.array _ _) => none
      | some _ => (match cs[fl.offset]? with
        | some c => some (.one (.cell c), [])
        | none => none)
      | none => none)
    | none => none)
  | _, _ => none
theorem All2.take {α γ : Type} {R : α → γ → Prop} {xs : List α} {ys : List γ} (h : All2 R xs ys) (n : Nat) : All2 R (xs.take n) (ys.take n) := by
  induction h generalizing n with
  | nil => simp only [List.take_nil]; exact .nil
  | cons h1 h2 ih =>
    cases n with
    | zero => exact .nil
    | succ n => exact .cons h1 (ih n)
theorem All2.drop {α γ : Type} {R : α → γ → Prop} {xs : List α} {ys : List γ} (h : All2 R xs ys) (n : Nat) : All2 R (xs.drop n) (ys.drop n) := by
  induction h generalizing n with
  | nil => simp only [List.drop_nil]; exact .nil
  | cons h1 h2 ih =>
    cases n with
    | zero => exact .cons h1 h2
    | succ n => exact ih n
theorem pField_ok {t : TypeId} {f : Nat} {x z : V2} {ns : List E} (h : pField P t f x = some (z, ns)) {v : Value} (hx : x.rep ρ β w v) :
    ∃ u, (Instr.field t v f).run P w = .ok u w ∧ z.rep ρ β w u := by
  unfold pField at h
  split at h
  · rename_i cs fs hu
    obtain ⟨us, rfl, hus⟩ := hx
    split at h
    · rename_i fl hf
      split at h
      · rename_i q hq
        split at h
        · rename_i i hi
          simp only [Option.some.injEq, Prod.mk.injEq] at h
          obtain ⟨rfl, _⟩ := h
          refine ⟨.agg (us.toArray.extract fl.offset (fl.offset + i.size)), ?_, (us.take (fl.offset + i.size)).drop fl.offset, ?_, (hus.take _).drop _⟩
          · simp [Instr.field, run_underlying hu, hf, asAgg, part, isAgg, run_underlying hq, sizeOf, typeInfo, hi]
          · simp [List.extract_toArray, List.extract_eq_take_drop, List.drop_take]
        · simp at h
      · simp at h
      · rename_i d hq1 hq2 hd
        split at h
        · rename_i c hc
          simp only [Option.some.injEq, Prod.mk.injEq] at h
          obtain ⟨rfl, _⟩ := h
          obtain ⟨u, hu2, hr⟩ := hus.get hc
          refine ⟨u, ?_, hr⟩
          have hp : (part fl.type us.toArray fl.offset).run P w = .ok u w := run_part_cell hd (by cases d <;> first | rfl | exact absurd rfl (hq1 _) | exact absurd rfl (hq2 _ _)) (by simpa using hu2)
          simp [Instr.field, run_underlying hu, hf, asAgg, hp]
        · simp at h
      · simp at h
    · simp at h
  · simp at h

/-! ### Elements of slices -/
def pIndexAddr (P : Program) (t : TypeId) (x ix : V2) : Option (V2 × List E) :=
  match P.underlying t, x, ix with
  | some (.slice e), .one (.cell (.ex (.sl cols) l)), .one (.cell (.ex (.base (.int _)) i)) => (match P.info? e with
    | some inf => if inf.size = cols.length then some (.one (.cell (.el cols l i 0)), [.op2 .le (.ki 0) i, .op2 .lt i (.len l)]) else none
    | none => none)
  | _, _, _ => none
theorem pIndexAddr_ok {t : TypeId} {x ix z : V2} {ns : List E} (h : pIndexAddr P t x ix = some (z, ns)) (hn : ∀ e, e ∈ ns → (e.den ρ).B = true) {vx vi : Value} (hx : x.rep ρ β w vx) (hi : ix.rep ρ β w vi) :
    ∃ u, (Instr.indexAt t vx vi).run P w = .ok u w ∧ z.rep ρ β w u := by
  unfold pIndexAddr at h
  split at h
  · rename_i e cols l k i hu
    split at h
    · rename_i inf hinf
      split at h
      · rename_i hsize
        simp only [Option.some.injEq, Prod.mk.injEq] at h
        obtain ⟨rfl, rfl⟩ := h
        have n1 := hn (.op2 .le (.ki 0) i) (by simp)
        have n2 := hn (.op2 .lt i (.len l)) (by simp)
        simp only [E.den, O2.ev, LV.B_b, LV.I_i] at n1 n2
        have n1 := of_decide_eq_true n1
        have n2 := of_decide_eq_true n2
        simp only [V2.rep, V1.rep, CV.rep, Col.rep, BC.rep] at hx hi
        subst hi
        obtain ⟨a, cap, rfl, h2, h3, h4, h5⟩ := hx
        have hne : (l.den ρ).L ≠ [] := by intro he; rw [he] at n2; simp at n2; omega
        obtain ⟨g, off, rfl, hrow⟩ := h5 hne
        refine ⟨.pointer (some ⟨g, off + (i.den ρ).I.toNat * inf.size, none⟩), ?_, g, off, ?_, hrow, by omega, h4⟩
        · have he : P.elem t = e := by simp [Program.elem, hu]
          rw [run_indexAt_slice w t _ _ _ _ _ (by rw [he]; exact hu), if_pos ⟨n1, n2⟩, he]
          simp [sizeOf, typeInfo, hinf, Addr.add_lit]
        · rw [hsize]; simp
      · simp at h
    · simp at h
  · simp at h
/-- A cell of the row that an element's address leads to. -/
def rdCV (cols : List BC) (l i : E) (j : Nat) : Option CV := (cols[j]?).map fun c => .ex (.base c) (.op2 (.rd j) l i)
def rdAll (cols : List BC) (l i : E) : Nat → List CV
  | 0 => []
  | n + 1 => rdAll cols l i n ++ (rdCV cols l i n).toList
def pLoadEl (P : Program) (t : TypeId) (x : V2) : Option (V2 × List E) :=
  match x with
  | .one (.cell (.el cols l i j)) => (match P.underlying t with
    | some (.struct _) => (match P.info? t with
      | some inf => if inf.size = cols.length ∧ j = 0 then some (.one (.agg (rdAll cols l i cols.length)), []) else none
      | none => none)
    | some (.array _ _) => none
    | some _ => (match rdCV cols l i j with
      | some c => some (.one (.cell c), [])
      | none => none)
    | none => none)
  | _ => none
theorem rd_ok {cols : List BC} {l i : E} {g off j : Nat} (hr : RowsAt w β.avoid cols (l.den ρ).L g off) (hi : (i.den ρ).I.toNat < (l.den ρ).L.length) (hl : ∀ r, r ∈ (l.den ρ).L → r.length = cols.length)
    {c : BC} (hc : cols[j]? = some c) : ∃ u, w.cell? ⟨g, off + ((i.den ρ).I.toNat * cols.length + j), none⟩ = some u ∧ CV.rep ρ β w (.ex (.base c) (.op2 (.rd j) l i)) u := by
  have hrow : (l.den ρ).L[(i.den ρ).I.toNat]? = some ((l.den ρ).L[(i.den ρ).I.toNat]) := List.getElem?_eq_getElem hi
  have hlen := hl _ (List.getElem_mem hi)
  have hj : j < cols.length := by
    rcases Nat.lt_or_ge j cols.length with h | h
    · exact h
    · rw [List.getElem?_eq_none h] at hc; simp at hc
  have hcell : (l.den ρ).L[(i.den ρ).I.toNat][j]? = some ((l.den ρ).L[(i.den ρ).I.toNat][j]'(by omega)) := List.getElem?_eq_getElem (by omega)
  obtain ⟨u, hu, hrep⟩ := hr.2.2 _ j _ _ c hrow hcell hc
  refine ⟨u, hu, ?_⟩
  simp only [CV.rep, Col.rep, E.den, O2.ev]
  have e1 : (l.den ρ).L.getD (i.den ρ).I.toNat [] = (l.den ρ).L[(i.den ρ).I.toNat] := by rw [List.getD_eq_getElem?_getD, hrow, Option.getD_some]
  rw [e1, List.getD_eq_getElem?_getD, hcell, Option.getD_some]
  exact hrep
theorem pLoadEl_ok {t : TypeId} {x z : V2} {ns : List E} (h : pLoadEl P t x = some (z, ns)) {v : Value} (hx : x.rep ρ β w v) :
    ∃ u, (Instr.loadAt t v).run P w = .ok u w ∧ z.rep ρ β w u := by
  unfold pLoadEl at h
  split at h
  · rename_i cols l i j
    obtain ⟨g, off, rfl, h2, h3, h4⟩ := hx
    split at h
    · rename_i fs hu
      split at h
      · rename_i inf hinf
        split at h
        · rename_i hc
          obtain ⟨hsize, rfl⟩ := hc
          simp only [Option.some.injEq, Prod.mk.injEq] at h
          obtain ⟨rfl, _⟩ := h
          have key : ∀ n, n ≤ cols.length → ∃ us : List Value, us.length = n ∧ (∀ m u, us[m]? = some u → w.cell? ⟨g, off + ((i.den ρ).I.toNat * cols.length + m), none⟩ = some u) ∧ All2 (CV.rep ρ β w) (rdAll cols l i n) us := by
            intro n
            induction n with
            | zero => intro _; exact ⟨[], rfl, by simp, .nil⟩
            | succ n ih =>
              intro hn
              obtain ⟨us, h5, h6, h7⟩ := ih (by omega)
              have hc : cols[n]? = some cols[n] := List.getElem?_eq_getElem (by omega)
              obtain ⟨u, hu1, hu2⟩ := rd_ok h2 h3 h4 hc
              refine ⟨us ++ [u], by simp [h5], ?_, ?_⟩
              · intro m x hm
                rw [List.getElem?_append] at hm
                split at hm
                · exact h6 m x hm
                · rename_i hlt
                  have : m = n := by
                    rcases Nat.lt_or_ge (m - us.length) 1 with h | h
                    · omega
                    · rw [List.getElem?_eq_none (by simpa using h)] at hm; simp at hm
                  subst this
                  simp [h5] at hm
                  subst hm
                  exact hu1
              · simp only [rdAll, rdCV, hc, Option.map_some, Option.toList_some]
                have app : ∀ {xs ys : List CV} {vs us : List Value}, All2 (CV.rep ρ β w) xs vs → All2 (CV.rep ρ β w) ys us → All2 (CV.rep ρ β w) (xs ++ ys) (vs ++ us) := by
                  intro xs ys vs us h1 h2
                  induction h1 with
                  | nil => exact h2
                  | cons h _ ih => exact .cons h ih
                exact app h7 (.cons hu2 .nil)
          obtain ⟨us, h5, h6, h7⟩ := key cols.length (Nat.le_refl _)
          refine ⟨.agg us.toArray, ?_, us, rfl, h7⟩
          have hload := run_loadCells_list (P := P) w (⟨g, off + ((i.den ρ).I.toNat * cols.length + 0), none⟩ : Addr) us (fun m u hm => by
            rw [Addr.add_lit]
            have := h6 m u hm
            simpa [Nat.add_assoc] using this)
          simp only [Instr.loadAt, Instr.sureAddr, loadVar, isAgg, Sem.run_bind, Sem.run_pure, Result.andThen_ok, run_underlying hu, if_true, sizeOf, typeInfo, run_program, hinf, hsize]
          rw [h5] at hload
          rw [hload]
          rfl
        · simp at h
      · simp at h
    · simp at h
    · rename_i d hq1 hq2 hd
      split at h
      · rename_i c hc
        simp only [Option.some.injEq, Prod.mk.injEq] at h
        obtain ⟨rfl, _⟩ := h
        simp only [rdCV, Option.map_eq_some_iff] at hc
        obtain ⟨c', hc', rfl⟩ := hc
        obtain ⟨u, hu1, hu2⟩ := rd_ok h2 h3 h4 hc'
        refine ⟨u, ?_, hu2⟩
        have hagg : (isAgg t).run P w = .ok false w := by
          cases d <;> first | exact absurd rfl (hq1 _) | exact absurd rfl (hq2 _ _) | simp [isAgg, run_underlying hd]
        simp [Instr.loadAt, Instr.sureAddr, loadVar, hagg, hu1]
      · simp at h
    · simp at h
  · simp at h

/-! ### A piece of a slice -/
def optInt : Option V2 → Option (Option E)
  | none => some none
  | some (.one (.cell (.ex (.base (.int _)) e))) => some (some e)
  | some _ => none
def pSlice (P : Program) (t : TypeId) (x : V2) (lo hi mx : Option V2) : Option (V2 × List E) :=
  match P.underlying t, x, optInt lo, optInt hi, optInt mx with
  | some (.slice e), .one (.cell (.ex (.sl cols) l)), some lo', some hi', some mx' => (match P.info? e with
    | some inf => if inf.size = cols.length ∧ (mx'.isSome = true → hi'.isSome = true) then
        some (.one (.cell (if mx' = hi' ∧ mx'.isSome = true then .tsl cols (.sub l (lo'.getD (.ki 0)) (hi'.getD (.len l))) else .ex (.sl cols) (.sub l (lo'.getD (.ki 0)) (hi'.getD (.len l))))),
          [.op2 .le (.ki 0) (lo'.getD (.ki 0)), .op2 .le (lo'.getD (.ki 0)) (hi'.getD (.len l)), .op2 .le (hi'.getD (.len l)) (mx'.getD (.len l)), .op2 .le (mx'.getD (.len l)) (.len l)])
      else none
    | none => none)
  | _, _, _, _, _ => none
theorem sub_rows (rows : List (List LV)) (lo hi : Nat) (_h1 : lo ≤ hi) (_h2 : hi ≤ rows.length) (i : Nat) : ((rows.take hi).drop lo)[i]? = if i < hi - lo then rows[lo + i]? else none := by
  rw [List.getElem?_drop, List.getElem?_take]
  by_cases h : i < hi - lo
  · rw [if_pos h, if_pos (by omega)]
  · rw [if_neg h, if_neg (by omega)]
theorem SlRep.sub {Tr : Nat → Prop} {cols : List BC} {rows : List (List LV)} {a : Option Addr} {cap : Nat} (h : SlRep w Tr cols rows (.slice a rows.length cap)) (lo hi m : Nat) (h1 : lo ≤ hi) (_h2 : hi ≤ m) (h3 : hi ≤ rows.length) :
    SlRep w Tr cols ((rows.take hi).drop lo) (.slice (if m = lo then a else a.map (·.add (lo * cols.length))) (hi - lo) (m - lo)) := by
  obtain ⟨a', cap', he, h4, h5, h6, h7⟩ := h
  simp only [Value.slice.injEq] at he
  obtain ⟨rfl, _, rfl⟩ := he
  have hlen : ((rows.take hi).drop lo).length = hi - lo := by simp; omega
  refine ⟨_, m - lo, by rw [hlen], by rw [hlen]; omega, by rw [hlen]; omega, fun r hr => h6 r (List.mem_of_mem_take (List.mem_of_mem_drop hr)), fun hne => ?_⟩
  have hlt : lo < hi := by
    rcases Nat.lt_or_ge lo hi with h | h
    · exact h
    · exact absurd (List.eq_nil_of_length_eq_zero (by rw [hlen]; omega)) hne
  have hne' : rows ≠ [] := by intro he; subst he; simp at h3; omega
  obtain ⟨g, off, rfl, hrow⟩ := h7 hne'
  refine ⟨g, off + lo * cols.length, ?_, hrow.1, hrow.2.1, fun i j r x c hr hx hc => ?_⟩
  · rw [if_neg (by omega)]
    simp [Addr.add_lit]
  · rw [sub_rows rows lo hi h1 h3] at hr
    split at hr
    · obtain ⟨u, hu, hrep⟩ := hrow.2.2 (lo + i) j r x c hr hx hc
      refine ⟨u, ?_, hrep⟩
      rw [← hu]
      congr 2
      rw [Nat.add_mul]
      omega
    · simp at hr
theorem run_bound (k : IntKind) (i : Int) (y : Nat) (code : BoundsCode) (h0 : 0 ≤ i) (h1 : i ≤ y) : (Instr.sliceBound (.int k i) y code).run P w = .ok i.toNat w := by
  simp [Instr.sliceBound, asIntOf, h0, h1]
def optRep (ρ : Env) (β : Blk) (w : World) : Option V2 → Option Value → Prop
  | none, none => True
  | some x, some v => x.rep ρ β w v
  | _, _ => False
theorem optInt_ok {x : Option V2} {e : Option E} {v : Option Value} (h : optInt x = some e) (hr : optRep ρ β w x v) :
    (e = none ∧ v = none) ∨ ∃ q k, e = some q ∧ v = some (.int k (q.den ρ).I) := by
  unfold optInt at h
  split at h
  · simp only [Option.some.injEq] at h
    subst h
    cases v with
    | none => exact .inl ⟨rfl, rfl⟩
    | some v => exact hr.elim
  · rename_i k q
    simp only [Option.some.injEq] at h
    subst h
    cases v with
    | none => exact hr.elim
    | some v =>
      simp only [optRep, V2.rep, V1.rep, CV.rep, Col.rep, BC.rep] at hr
      exact .inr ⟨q, k, rfl, by rw [hr]⟩
  · simp at h
theorem pSlice_ok {t : TypeId} {x z : V2} {lo hi mx : Option V2} {ns : List E} (h : pSlice P t x lo hi mx = some (z, ns)) (hn : ∀ e, e ∈ ns → (e.den ρ).B = true) {vx : Value} {vl vh vm : Option Value}
    (hx : x.rep ρ β w vx) (hl : optRep ρ β w lo vl) (hh : optRep ρ β w hi vh) (hm : optRep ρ β w mx vm) :
    ∃ u, (Instr.sliceAt t vx vl vh vm).run P w = .ok u w ∧ z.rep ρ β w u := by
  unfold pSlice at h
  split at h
  · rename_i e cols l lo' hi' mx' hu h1 h2 h3
    split at h
    · rename_i inf hinf
      split at h
      · rename_i hc
        obtain ⟨hsize, hmx⟩ := hc
        simp only [Option.some.injEq, Prod.mk.injEq] at h
        obtain ⟨rfl, rfl⟩ := h
        have n1 := of_decide_eq_true (hn _ (List.mem_cons_self ..))
        have n2 := of_decide_eq_true (hn _ (List.mem_cons_of_mem _ (List.mem_cons_self ..)))
        have n3 := of_decide_eq_true (hn _ (List.mem_cons_of_mem _ (List.mem_cons_of_mem _ (List.mem_cons_self ..))))
        have n4 := of_decide_eq_true (hn _ (List.mem_cons_of_mem _ (List.mem_cons_of_mem _ (List.mem_cons_of_mem _ (List.mem_cons_self ..)))))
        have hx' := hx
        obtain ⟨a, cap, rfl, hcap, hmax, hcols, hrow⟩ := hx
        have he : P.elem t = e := by simp [Program.elem, hu]
        have i1 := optInt_ok h1 hl
        have i2 := optInt_ok h2 hh
        have i3 := optInt_ok h3 hm
        have fin : ∀ (L H M : Nat), L ≤ H → H ≤ M → H ≤ (l.den ρ).L.length → ((lo'.getD (.ki 0)).den ρ).I.toNat = L → ((hi'.getD (.len l)).den ρ).I.toNat = H →
            (Instr.sliceBounds true (l.den ρ).L.length cap vl vh vm).run P w = .ok (L, H, M) w → (mx' = hi' ∧ mx'.isSome = true → M = H) →
            ∃ u, (Instr.sliceAt t (.slice a (l.den ρ).L.length cap) vl vh vm).run P w = .ok u w ∧ V2.rep ρ β w (.one (.cell (if mx' = hi' ∧ mx'.isSome = true then .tsl cols (.sub l (lo'.getD (.ki 0)) (hi'.getD (.len l))) else .ex (.sl cols) (.sub l (lo'.getD (.ki 0)) (hi'.getD (.len l)))))) u := by
          intro L H M g1 g2 g3 g4 g5 hb g6
          have hsub : SlRep w β.avoid cols ((((l.den ρ).L).take H).drop L) (.slice (if M = L then a else a.map (·.add (L * cols.length))) (H - L) (M - L)) := SlRep.sub hx' L H M g1 g2 g3
          refine ⟨.slice (if M = L then a else a.map (·.add (L * cols.length))) (H - L) (M - L), ?_, ?_⟩
          · rw [run_sliceAt_slice w t _ _ _ _ (by rw [he]; exact hu)]
            simp [Instr.slice, run_underlying hu, hb, sizeOf, typeInfo, hinf, hsize]
          · simp only [V2.rep, V1.rep]
            split
            · rename_i hq
              have hMH := g6 hq
              subst hMH
              simp only [CV.rep, E.den, LV.L_l]
              rw [g4, g5]
              exact ⟨hsub, _, _, rfl⟩
            · simp only [CV.rep, Col.rep, E.den, LV.L_l]
              rw [g4, g5]
              exact hsub
        clear hx'
        rcases i3 with ⟨rfl, rfl⟩ | ⟨qm, km, rfl, rfl⟩
        · simp only [Option.getD_none, E.den, LV.I_i] at n3 n4
          rcases i2 with ⟨rfl, rfl⟩ | ⟨qh, kh, rfl, rfl⟩
          · simp only [Option.getD_none, E.den, LV.I_i] at n2
            rcases i1 with ⟨rfl, rfl⟩ | ⟨ql, kl, rfl, rfl⟩
            · exact fin 0 (l.den ρ).L.length cap (by omega) hcap (by omega) rfl (by simp [E.den]) (by simp [Instr.sliceBounds]) (fun h => by simp at h)
            · simp only [Option.getD_some, E.den, LV.I_i] at n1 n2
              refine fin (ql.den ρ).I.toNat (l.den ρ).L.length cap (by omega) hcap (by omega) rfl (by simp [E.den]) ?_ (fun h => by simp at h)
              simp [Instr.sliceBounds, run_bound kl _ _ _ n1 n2]
          · simp only [Option.getD_some] at n2 n3
            rcases i1 with ⟨rfl, rfl⟩ | ⟨ql, kl, rfl, rfl⟩
            · simp only [Option.getD_none, E.den, LV.I_i] at n1 n2
              refine fin 0 (qh.den ρ).I.toNat cap (by omega) (by omega) (by omega) rfl rfl ?_ (fun h => by simp at h)
              simp [Instr.sliceBounds, run_bound kh _ cap _ n2 (by omega)]
            · simp only [Option.getD_some, E.den, LV.I_i] at n1 n2
              refine fin (ql.den ρ).I.toNat (qh.den ρ).I.toNat cap (by omega) (by omega) (by omega) rfl rfl ?_ (fun h => by simp at h)
              simp [Instr.sliceBounds, run_bound kh _ cap _ (by omega : 0 ≤ (qh.den ρ).I) (by omega), run_bound kl (ql.den ρ).I (qh.den ρ).I.toNat _ n1 (by omega)]
        · rcases i2 with ⟨rfl, rfl⟩ | ⟨qh, kh, rfl, rfl⟩
          · simp at hmx
          · simp only [Option.getD_some, E.den, LV.I_i] at n2 n3 n4
            rcases i1 with ⟨rfl, rfl⟩ | ⟨ql, kl, rfl, rfl⟩
            · simp only [Option.getD_none, E.den, LV.I_i] at n1 n2
              refine fin 0 (qh.den ρ).I.toNat (qm.den ρ).I.toNat (by omega) (by omega) (by omega) rfl rfl ?_ (fun h => by have h := h.1; simp only [Option.some.injEq] at h; rw [h])
              simp [Instr.sliceBounds, run_bound km _ cap _ (by omega : 0 ≤ (qm.den ρ).I) (by omega), run_bound kh (qh.den ρ).I (qm.den ρ).I.toNat _ (by omega) (by omega)]
            · simp only [Option.getD_some, E.den, LV.I_i] at n1 n2
              refine fin (ql.den ρ).I.toNat (qh.den ρ).I.toNat (qm.den ρ).I.toNat (by omega) (by omega) (by omega) rfl rfl ?_ (fun h => by have h := h.1; simp only [Option.some.injEq] at h; rw [h])
              simp [Instr.sliceBounds, run_bound km _ cap _ (by omega : 0 ≤ (qm.den ρ).I) (by omega), run_bound kh (qh.den ρ).I (qm.den ρ).I.toNat _ (by omega) (by omega), run_bound kl (ql.den ρ).I (qh.den ρ).I.toNat _ n1 (by omega)]
      · simp at h
    · simp at h
  · simp at h
end
end Go.Proofs.Ythhnnfmfeofknaa.Sy
