/-
  A symbolic evaluator for the model's code, part I: a call by contract, and what each operation comes to.
-/
import Derived.Test.YthhnnfmfeofknaaSyH
namespace Go.Proofs.Ythhnnfmfeofknaa.Sy
open Go Go.RowKit
set_option linter.unusedSimpArgs false
set_option linter.unusedVariables false

section
variable {P : Program} {C : Ctx} {ρ : Env} {p : Nat → Nat} {S : Sm} {a : Act} {w : World}

theorem cellE_ok {β : Blk} {c : Col} {x : CV} {e : E} (h : cellE c x = some e) {v : Value} (hx : x.rep ρ β w v) : c.rep w β.avoid (e.den ρ) v := by
  unfold cellE at h
  split at h
  · split at h
    · rename_i hc; subst hc; simp only [Option.some.injEq] at h; subst h; exact hx
    · simp at h
  · split at h
    · simp only [Option.some.injEq] at h; subst h
      simp only [CV.rep] at hx
      subst hx
      exact sl_nil _
    · simp at h
  · split at h
    · rename_i hc; subst hc; simp only [Option.some.injEq] at h; subst h; exact hx.1
    · simp at h
  · simp at h
theorem cellsE_ok {β : Blk} : ∀ {cs : List Col} {xs : List CV} {es : List E} {us : List Value}, cellsE cs xs = some es → All2 (CV.rep ρ β w) xs us → CRep w β.avoid cs (es.map (·.den ρ)) us := by
  intro cs
  induction cs with
  | nil =>
    intro xs es us h hx
    cases xs with
    | nil => simp only [cellsE, Option.some.injEq] at h; subst h; cases hx; trivial
    | cons _ _ => simp [cellsE] at h
  | cons c cs ih =>
    intro xs es us h hx
    cases hx with
    | nil => simp [cellsE] at h
    | cons h1 h2 =>
      simp only [cellsE, Option.bind_eq_some_iff, Option.map_eq_some_iff] at h
      obtain ⟨e, he, es', hes, rfl⟩ := h
      exact ⟨cellE_ok he h1, ih hes h2⟩
theorem CRep.at_ {Tr : Nat → Prop} {b : Nat} : ∀ {cs : List Col} {ls : List LV} {us : List Value} {j : Nat}, CRep w Tr cs ls us → (∀ i u, us[i]? = some u → w.cell? ⟨b, j + i, none⟩ = some u ∧ w.frozen? ⟨b, j + i, none⟩ = false) → CAt w Tr b j cs ls := by
  intro cs
  induction cs with
  | nil => intro ls us j h _; cases ls <;> cases us <;> first | trivial | exact h.elim
  | cons c cs ih =>
    intro ls us j h hc
    cases ls with
    | nil => cases us <;> exact h.elim
    | cons l ls =>
      cases us with
      | nil => exact h.elim
      | cons u us =>
        have h0 := hc 0 u rfl
        rw [Nat.add_zero] at h0
        refine ⟨⟨u, h0.1, h.1, h0.2⟩, ih h.2 (fun i u hi => ?_)⟩
        have := hc (i + 1) u (by simpa using hi)
        rwa [show j + (i + 1) = j + 1 + i by omega] at this
def MarkOk (S : Sm) : List PSh → List Nat → Prop
  | .ptr _ cs :: ps, b :: bs => S (1, b) = some (mark cs.length) ∧ MarkOk S ps bs
  | .ptr _ _ :: _, [] => False
  | _ :: ps, bs => MarkOk S ps bs
  | [], _ => True
theorem locs_length (b : Nat) : ∀ (n o : Nat), (locs b o n).length = n := by
  intro n
  induction n with
  | zero => intro o; rfl
  | succ n ih => intro o; simp [locs, ih]
theorem takeArgs_ok (hM : Mt C ρ p S a w) : ∀ {ps : List PSh} {xs : List V2} {vs : List Value} {es : List E} {bs : List Nat} , takeArgs ps xs ((callReads ps xs).map S) = some (es, bs) → All2 (V2.rep ρ (blk C.av p S) w) xs vs →
    PRep w (blk C.av p S).avoid ps (es.map (·.den ρ)) (bs.map p) vs ∧ MarkOk S ps bs ∧ ∀ b, b ∈ bs → (S (1, b)).isSome = true := by
  intro ps
  induction ps with
  | nil =>
    intro xs vs es bs h hx
    cases xs with
    | nil => simp only [takeArgs, Option.some.injEq, Prod.mk.injEq] at h; obtain ⟨rfl, rfl⟩ := h; cases hx; exact ⟨⟨rfl, rfl, rfl⟩, trivial, by simp⟩
    | cons _ _ => simp [takeArgs] at h
  | cons q ps ih =>
    intro xs vs es bs h hx
    cases hx with
    | nil => cases q <;> simp [takeArgs] at h
    | cons h1 h2 =>
      rename_i x v xs vs
      cases q with
      | col c =>
        cases x with
        | one x => cases x with
          | cell x =>
            simp only [takeArgs, callReads, Option.bind_eq_some_iff, Option.map_eq_some_iff, Prod.mk.injEq] at h
            obtain ⟨e, he, ⟨es', bs'⟩, hr, rfl, rfl⟩ := h
            obtain ⟨i1, i2, i3⟩ := ih hr h2
            exact ⟨⟨_, _, _, _, rfl, rfl, cellE_ok he h1, i1⟩, i2, i3⟩
          | agg _ => simp [takeArgs] at h
        | _ => simp [takeArgs] at h
      | agg cs =>
        cases x with
        | one x => cases x with
          | cell x => simp [takeArgs] at h
          | agg ys =>
            simp only [takeArgs, callReads, Option.bind_eq_some_iff, Option.map_eq_some_iff, Prod.mk.injEq] at h
            obtain ⟨e, he, ⟨es', bs'⟩, hr, rfl, rfl⟩ := h
            obtain ⟨i1, i2, i3⟩ := ih hr h2
            obtain ⟨us, rfl, hus⟩ := h1
            exact ⟨⟨_, _, us, _, by simp only [List.map_append], rfl, cellsE_ok he hus, i1⟩, i2, i3⟩
        | _ => simp [takeArgs] at h
      | fn f =>
        cases x with
        | one x => cases x with
          | cell x =>
            cases x with
            | fn f' =>
              simp only [takeArgs, callReads] at h
              split at h
              · rename_i hf
                subst hf
                obtain ⟨i1, i2, i3⟩ := ih h h2
                simp only [V2.rep, V1.rep, CV.rep] at h1
                subst h1
                exact ⟨⟨_, rfl, i1⟩, i2, i3⟩
              · simp at h
            | _ => simp [takeArgs] at h
          | agg _ => simp [takeArgs] at h
        | _ => simp [takeArgs] at h
      | ptr mt cs =>
        cases x with
        | one x => cases x with
          | cell x =>
            cases x with
            | ptr b o =>
              cases o with
              | succ o => simp [takeArgs] at h
              | zero =>
                simp only [takeArgs, callReads, List.map_cons, List.cons_append, List.map_append] at h
                split at h
                · rename_i hmk
                  simp only [Bool.and_eq_true] at hmk
                  obtain ⟨m, hm, hle⟩ := marked_ok hmk.1
                  have hmeq : m = cs.length := by
                    have h2 := hmk.2
                    rw [hm] at h2
                    simp only [takeArgs.marked', mark, decide_eq_true_eq] at h2
                    omega
                  subst hmeq
                  have hlen : ((locs b 0 cs.length).map S).length = cs.length := by simp [locs_length]
                  rw [List.take_left' hlen, List.drop_left' hlen] at h
                  simp only [Option.bind_eq_some_iff, Option.map_eq_some_iff, Prod.mk.injEq] at h
                  obtain ⟨es1, ⟨ys, hys, hes1⟩, ⟨es', bs'⟩, hr, rfl, rfl⟩ := h
                  obtain ⟨i1, i2, i3⟩ := ih hr h2
                  obtain ⟨hlive, hv⟩ := h1
                  obtain ⟨_, us, hul, hus, hcell⟩ := cvsOf_ok hM hm _ _ (by omega) hys
                  refine ⟨⟨es1.map (·.den ρ), _, p b, _, _, by simp only [List.map_append], rfl, by rw [hv]; rfl, (hM.live b hlive).1, ?_, i1⟩, ⟨hm, i2⟩, ?_⟩
                  · exact CRep.at_ (cellsE_ok hes1 hus) hcell
                  · intro b' hb'
                    rcases List.mem_cons.1 hb' with rfl | hb'
                    · exact hlive
                    · exact i3 b' hb'
                · simp at h
            | _ => simp [takeArgs] at h
          | agg _ => simp [takeArgs] at h
        | _ => simp [takeArgs] at h

theorem FRep.exs {β : Blk} {f : Nat → LV} : ∀ {cs : List Col} {us : List Value} {n k : Nat}, FRep w β.avoid f k cs us → (∀ i, i < cs.length → ρ (n + i) = f (k + i)) → All2 (CV.rep ρ β w) (exs n cs) us := by
  intro cs
  induction cs with
  | nil => intro us n k h _; simp only [FRep] at h; subst h; exact .nil
  | cons c cs ih =>
    intro us n k h hf
    obtain ⟨u, us', rfl, h1, h2⟩ := h
    refine .cons ?_ (ih h2 (fun i hi => ?_))
    · simp only [CV.rep, E.den]
      have := hf 0 (by simp)
      simp only [Nat.add_zero] at this
      rw [this]; exact h1
    · have := hf (i + 1) (by simp; omega)
      rwa [show n + (i + 1) = n + 1 + i by omega, show k + (i + 1) = k + 1 + i by omega] at this
theorem RRep.resV {β : Blk} {f : Nat → LV} : ∀ {rs : List RSh} {us : List Value} {n k : Nat}, RRep w β.avoid f k rs us → (∀ i, i < resLen rs → ρ (n + i) = f (k + i)) → All2 (V1.rep ρ β w) (resV n rs) us := by
  intro rs
  induction rs with
  | nil => intro us n k h _; simp only [RRep] at h; subst h; exact .nil
  | cons r rs ih =>
    intro us n k h hf
    cases r with
    | col c =>
      obtain ⟨u, us', rfl, h1, h2⟩ := h
      refine .cons ?_ (ih h2 (fun i hi => ?_))
      · simp only [V1.rep, CV.rep, E.den]
        have := hf 0 (by simp [resLen, RSh.len]; omega)
        simp only [Nat.add_zero] at this
        rw [this]; exact h1
      · have := hf (i + 1) (by simp only [resLen, RSh.len]; omega)
        rwa [show n + (i + 1) = n + 1 + i by omega, show k + (i + 1) = k + 1 + i by omega] at this
    | agg cs =>
      obtain ⟨vs, us', rfl, h1, h2⟩ := h
      refine .cons ⟨vs, rfl, FRep.exs h1 (fun i hi => hf i (by simp only [resLen, RSh.len]; omega))⟩ (ih h2 (fun i hi => ?_))
      have := hf (cs.length + i) (by simp only [resLen, RSh.len]; omega)
      rwa [show n + (cs.length + i) = n + cs.length + i by omega, show k + (cs.length + i) = k + cs.length + i by omega] at this
theorem ret_ok {β : Blk} {xs : List V1} {us : List Value} (h : All2 (V1.rep ρ β w) xs us) : (ret1 xs).rep ρ β w (retV us) := by
  cases h with
  | nil => exact ⟨[], rfl, .nil⟩
  | cons h1 h2 =>
    cases h2 with
    | nil => exact h1
    | cons h2 h3 => exact ⟨_, rfl, .cons h1 (.cons h2 h3)⟩
theorem exs_length : ∀ (cs : List Col) (n : Nat), (exs n cs).length = cs.length := by
  intro cs
  induction cs with
  | nil => intro n; rfl
  | cons c cs ih => intro n; simp [exs, ih]
theorem mutOf_map : ∀ (ps : List PSh) (bs : List Nat), mutOf ps (bs.map p) = (mutOf ps bs).map p := by
  intro ps
  induction ps with
  | nil => intro bs; rfl
  | cons q ps ih =>
    intro bs
    cases q with
    | ptr mt cs =>
      cases bs with
      | nil => cases mt <;> rfl
      | cons b bs => cases mt <;> simp [mutOf, ih]
    | _ => simp only [mutOf, ih]
theorem mutOf_sub : ∀ (ps : List PSh) (bs : List Nat) (b : Nat), b ∈ mutOf ps bs → b ∈ bs := by
  intro ps
  induction ps with
  | nil => intro bs b h; simp [mutOf] at h
  | cons q ps ih =>
    intro bs b h
    cases q with
    | ptr mt cs =>
      cases bs with
      | nil => cases mt <;> simp [mutOf] at h
      | cons b' bs =>
        cases mt with
        | true =>
          simp only [mutOf, List.mem_cons] at h
          rcases h with rfl | h
          · simp
          · exact List.mem_cons_of_mem _ (ih _ _ h)
        | false => exact List.mem_cons_of_mem _ (ih _ _ (by simpa [mutOf] using h))
    | _ => exact ih _ _ (by simpa [mutOf] using h)
theorem look_outW_mem : ∀ (ps : List PSh) (bs : List Nat) (n : Nat) (l : Loc) (x : Option V2), look (outW n ps bs) l = some x → ∃ b, b ∈ mutOf ps bs ∧ l.1 = b + 2 := by
  intro ps
  induction ps with
  | nil => intro bs n l x h; simp [outW, look] at h
  | cons q ps ih =>
    intro bs n l x h
    cases q with
    | ptr mt cs =>
      cases bs with
      | nil => cases mt <;> simp [outW, look] at h
      | cons b bs =>
        cases mt with
        | true =>
          simp only [outW, look_append] at h
          cases h1 : look (wsOf b 0 (exs n cs)) l with
          | some y =>
            rw [look_wsOf] at h1
            split at h1
            · rename_i hc; exact ⟨b, by simp [mutOf], hc.1⟩
            · simp at h1
          | none =>
            rw [h1] at h
            obtain ⟨b', hb', hl⟩ := ih bs _ l x (by simpa using h)
            exact ⟨b', by simp [mutOf, hb'], hl⟩
        | false => exact ih bs n l x (by simpa [outW] using h)
    | _ => exact ih bs n l x (by simpa [outW] using h)
theorem look_outW_none : ∀ (ps : List PSh) (bs : List Nat) (n : Nat), MarkOk S ps bs → ∀ (b o m : Nat), b ∈ mutOf ps bs → S (1, b) = some (mark m) → o < m → look (outW n ps bs) (b + 2, o) ≠ none := by
  intro ps
  induction ps with
  | nil => intro bs n _ b o m h; simp [mutOf] at h
  | cons q ps ih =>
    intro bs n hmk b o m h hS hom
    cases q with
    | ptr mt cs =>
      cases bs with
      | nil => exact hmk.elim
      | cons b' bs =>
        obtain ⟨hm1, hm2⟩ := hmk
        cases mt with
        | true =>
          simp only [outW, look_append]
          by_cases hb : b = b'
          · subst hb
            rw [hm1] at hS
            simp only [mark, Option.some.injEq, V2.one.injEq, V1.cell.injEq, CV.fn.injEq] at hS
            rw [look_wsOf, if_pos ⟨rfl, Nat.zero_le _, by rw [exs_length]; omega⟩]
            have : o < (exs n cs).length := by rw [exs_length]; omega
            simp [List.getElem?_eq_getElem this]
          · have := ih bs (n + cs.length) hm2 b o m (by simpa [mutOf, hb] using h) hS hom
            intro hc
            simp only [Option.or_eq_none_iff] at hc
            exact this hc.2
        | false => simpa [outW] using ih bs n hm2 b o m (by simpa [mutOf] using h) hS hom
    | col c => simpa [outW] using ih bs n hmk b o m (by simpa [mutOf] using h) hS hom
    | agg c => simpa [outW] using ih bs n hmk b o m (by simpa [mutOf] using h) hS hom
    | fn c => simpa [outW] using ih bs n hmk b o m (by simpa [mutOf] using h) hS hom
theorem FAt.get {β : Blk} {f : Nat → LV} {g : Nat} : ∀ {cs : List Col} {n k j : Nat}, FAt w β.avoid f g k j cs → (∀ i, i < cs.length → ρ (n + i) = f (k + i)) → ∀ (i : Nat) (c : CV), (exs n cs)[i]? = some c →
    ∃ u, w.cell? ⟨g, j + i, none⟩ = some u ∧ c.rep ρ β w u ∧ w.frozen? ⟨g, j + i, none⟩ = false := by
  intro cs
  induction cs with
  | nil => intro n k j _ _ i c h; simp [exs] at h
  | cons c cs ih =>
    intro n k j h hf i x hx
    obtain ⟨⟨u, h1, h2, h3⟩, h4⟩ := h
    cases i with
    | zero =>
      simp only [exs, List.getElem?_cons_zero, Option.some.injEq] at hx
      subst hx
      refine ⟨u, h1, ?_, h3⟩
      simp only [CV.rep, E.den]
      have := hf 0 (by simp)
      simp only [Nat.add_zero] at this
      rw [this]; exact h2
    | succ i =>
      have := ih h4 (fun i hi => by
        have := hf (i + 1) (by simp; omega)
        rwa [show n + (i + 1) = n + 1 + i by omega, show k + (i + 1) = k + 1 + i by omega] at this) i x (by simpa [exs] using hx)
      rwa [show j + (i + 1) = j + 1 + i by omega]
theorem ORep.look {β : Blk} {f : Nat → LV} : ∀ {ps : List PSh} {bs : List Nat} {n k : Nat}, ORep w β.avoid f k ps (bs.map p) → (∀ i, i < outLen ps → ρ (n + i) = f (k + i)) → ∀ (b o : Nat) (x : V2), look (outW n ps bs) (b + 2, o) = some (some x) → CellOk ρ β w (p b) o x := by
  intro ps
  induction ps with
  | nil => intro bs n k _ _ b o x h; simp [outW, Sy.look] at h
  | cons q ps ih =>
    intro bs n k h hf b o x hl
    cases q with
    | ptr mt cs =>
      cases bs with
      | nil => cases mt <;> simp [outW, Sy.look] at hl
      | cons b' bs =>
        cases mt with
        | true =>
          obtain ⟨h1, h2⟩ := h
          simp only [outW, look_append] at hl
          cases hl1 : Sy.look (wsOf b' 0 (exs n cs)) (b + 2, o) with
          | some y =>
            rw [hl1, Option.some_or] at hl
            simp only [Option.some.injEq] at hl
            subst hl
            rw [look_wsOf] at hl1
            split at hl1
            · rename_i hc
              have hbb : b = b' := by have := hc.1; simpa using this
              subst hbb
              simp only [Nat.sub_zero, Option.map_eq_some_iff, Option.some.injEq] at hl1
              obtain ⟨c, hc', rfl⟩ := hl1
              obtain ⟨u, g1, g2, g3⟩ := FAt.get h1 (fun i hi => hf i (by simp only [outLen]; omega)) o c hc'
              rw [Nat.zero_add] at g1 g3
              exact ⟨c, u, rfl, g1, g2, g3⟩
            · simp at hl1
          | none =>
            rw [hl1] at hl
            refine ih h2 (fun i hi => ?_) b o x (by simpa using hl)
            have := hf (cs.length + i) (by simp only [outLen]; omega)
            rwa [show n + (cs.length + i) = n + cs.length + i by omega, show k + (cs.length + i) = k + cs.length + i by omega] at this
        | false => exact ih h hf b o x (by simpa [outW] using hl)
    | col c => exact ih h hf b o x (by simpa [outW] using hl)
    | agg c => exact ih h hf b o x (by simpa [outW] using hl)
    | fn c => exact ih h hf b o x (by simpa [outW] using hl)
theorem nodup_ok : ∀ {bs : List Nat}, nodup bs = true → bs.Nodup := by
  intro bs
  induction bs with
  | nil => intro _; exact List.nodup_nil
  | cons b bs ih =>
    intro h
    simp only [nodup, Bool.and_eq_true, Bool.not_eq_true', List.contains_eq_mem, decide_eq_false_iff_not] at h
    exact List.nodup_cons.2 ⟨h.1, ih h.2⟩
theorem mCall_ok {Φ : Nat → List LV → List LV} {Pr : Nat → List LV → Prop} {sg : Sig} {n : Nat} {xs : List V2} {A : Ac} {vs : List Value} {key : Nat} {es : List E} {n' m : Nat} (hM : Mt C ρ p S a w)
    (h : mCall C.ro sg n xs ((callReads sg.params xs).map S) = some A) (hb : A.bind = some (key, es, n', m)) (hx : All2 (V2.rep ρ (blk C.av p S) w) xs vs) (hcon : ConOk P Φ Pr sg)
    (hbind : ∀ i, i < m → ρ (n' + i) = outOf (Φ key (es.map (·.den ρ))) i) (hpre : Pr key (es.map (·.den ρ))) :
    Calls P sg.fid vs.toArray w fun e w' => ∃ v, e = .returned v ∧ ∀ (d : Option Tmp) (z : V2), (∀ t, d = some t → t < C.nt) → (∀ β w, A.val.rep ρ β w v → z.rep ρ β w v) → Mt C ρ p (upd (upd S A.ws) (dw d z)) (a.put d v) w' := by
  unfold mCall at h
  split at h
  · rename_i es' bs ht
    split at h
    · rename_i hnd
      simp only [Bool.and_eq_true] at hnd
      obtain ⟨hnd, hwr⟩ := hnd
      simp only [Option.some.injEq] at h
      subst h
      simp only [Option.some.injEq, Prod.mk.injEq] at hb
      obtain ⟨rfl, rfl, rfl, rfl⟩ := hb
      obtain ⟨i1, i2, i3⟩ := takeArgs_ok hM ht hx
      have hinj : (bs.map p).Nodup := by
        have : ∀ {bs : List Nat}, bs.Nodup → (∀ b, b ∈ bs → (S (1, b)).isSome = true) → (bs.map p).Nodup := by
          intro bs
          induction bs with
          | nil => intro _ _; exact List.nodup_nil
          | cons b bs ih =>
            intro h1 h2
            rw [List.nodup_cons] at h1
            simp only [List.map_cons, List.nodup_cons, List.mem_map]
            refine ⟨?_, ih h1.2 fun b hb => h2 b (List.mem_cons_of_mem _ hb)⟩
            rintro ⟨b', hb', he⟩
            have := hM.inj b' b (h2 b' (List.mem_cons_of_mem _ hb')) (h2 b (by simp)) he
            subst this
            exact h1.1 hb'
        exact this (nodup_ok hnd) i3
      refine (hcon.calls (es'.map (·.den ρ)) (bs.map p) vs w (blk C.av p S).avoid ?_ ?_ hinj i1 hpre).mono ?_
      · rintro i (hi | hi)
        · have := hM.avlt _ hi
          have := hM.grown
          omega
        · exact hM.trk_lt hi
      · intro b hb
        obtain ⟨b', hb', rfl⟩ := List.mem_map.1 hb
        exact .inr ⟨b', i3 b' hb', rfl⟩
      · rintro e w' ⟨us, rfl, hext, hres, hout⟩
        refine ⟨_, rfl, fun d z hd hz => ?_⟩
        have hb1 : ∀ i, i < resLen sg.results → ρ (n + i) = outOf (Φ sg.key (es'.map (·.den ρ))) (0 + i) := fun i hi => by rw [Nat.zero_add]; exact hbind i (by omega)
        have hb2 : ∀ i, i < outLen sg.params → ρ (n + resLen sg.results + i) = outOf (Φ sg.key (es'.map (·.den ρ))) (resLen sg.results + i) := fun i hi => by
          have := hbind (resLen sg.results + i) (by omega)
          rwa [← Nat.add_assoc] at this
        have hextT : Ext (blk C.av p S).trk w w' := hext.mono fun i _ hi => by
          rw [mutOf_map] at hi
          obtain ⟨b, hb, rfl⟩ := List.mem_map.1 hi
          exact ⟨b, i3 b (mutOf_sub _ _ _ hb), rfl⟩
        have hl1 : ∀ k, look (outW (n + resLen sg.results) sg.params bs) (1, k) = none := fun k => by
          cases hlk : look (outW (n + resLen sg.results) sg.params bs) (1, k) with
          | none => rfl
          | some x =>
            obtain ⟨b, _, hb⟩ := look_outW_mem _ _ _ _ _ hlk
            simp at hb
        have hlive : ∀ k, upd S (outW (n + resLen sg.results) sg.params bs) (1, k) = S (1, k) := fun k => by simp only [upd, hl1, Option.getD_none]
        have hblk : blk C.av p (upd S (outW (n + resLen sg.results) sg.params bs)) = blk C.av p S := by
          simp only [blk]; congr 1; funext b; rw [hlive]
        refine hM.step (p' := p) _ d z _ ?_ hd hextT (fun b' hb' hl' => hext.same _ (hM.live b' hl').1 (fun hmem => by
            rw [mutOf_map] at hmem
            obtain ⟨b, hb, he⟩ := List.mem_map.1 hmem
            have := hM.inj b b' (i3 b (mutOf_sub _ _ _ hb)) hl' he
            subst this
            have h3 := List.all_eq_true.1 hwr b hb
            simp only [Bool.not_eq_true', List.contains_eq_mem, decide_eq_false_iff_not] at h3
            exact h3 hb')) (fun _ _ => rfl) (fun _ _ => rfl) (fun k hk => by rw [hlive]; exact hk) (fun k hk => .inl (by rw [hlive] at hk; exact hk))
          (fun k k' hk hk' he => hM.inj k k' (by rw [hlive] at hk; exact hk) (by rw [hlive] at hk'; exact hk') he) ?_ ?_ ?_
        · intro l x hl
          obtain ⟨b, _, hb⟩ := look_outW_mem _ _ _ _ _ hl
          omega
        · intro k q y mm _ _ hq
          rw [hblk]
          exact ORep.look hout hb2 k q y hq
        · intro k q mm hk hq hlk _
          rw [hlive] at hk
          have hnot : k ∉ mutOf sg.params bs := fun hkm => look_outW_none _ _ _ i2 k q mm hkm hk hq hlk
          have hkl : (S (1, k)).isSome = true := by rw [hk]; rfl
          have hheap : w'.heap[p k]? = w.heap[p k]? := hext.same _ (hM.live k hkl).1 (fun hmem => by
            rw [mutOf_map] at hmem
            obtain ⟨b, hb, he⟩ := List.mem_map.1 hmem
            have := hM.inj b k (i3 b (mutOf_sub _ _ _ hb)) hkl he
            subst this
            exact hnot hb)
          exact ⟨hk, cell_of_heap hheap, frozen_of_heap hheap⟩
        · rw [hblk]
          exact hz _ _ (ret_ok (RRep.resV hres hb1))
    · simp at h
  · simp at h
/-! ### Appending to a slice that has no room -/
/-- The rows of a slice that has no room: nil, or one cut off at its length. -/
def tightOf (cols : List BC) : V2 → Option E
  | .one (.cell .nils) => some .lnil
  | .one (.cell (.tsl cols' e)) => if cols' = cols then some e else none
  | _ => none
def appendE (inf : TypeInfo) (cols : List BC) (ex ey : E) : Option (V2 × List E) :=
  match inf.zero with
  | some z => if inf.size = cols.length ∧ z.cells.size = inf.size ∧ 0 < inf.size then
      some (.one (.cell (.ex (.sl cols) (.op2 .cat ex ey))), [.op2 .le (.op2 .add (.len ex) (.len ey)) (.ki ((140737488355328 / (max 1 inf.bytes) : Nat) : Int))]) else none
  | none => none
def mAppend (P : Program) (ts : List TypeId) (x y : V2) : Option (V2 × List E) :=
  match ts, y with
  | [t, t'], .one (.cell (.ex (.sl cols) ey)) => if t = t' then (match P.underlying t with
    | some (.slice e) => (match P.info? e, tightOf cols x with
      | some inf, some ex => appendE inf cols ex ey
      | _, _ => none)
    | _ => none) else none
  | _, _ => none
theorem rows_cells {w : World} {Tr : Nat → Prop} {cols : List BC} {rows : List (List LV)} {g off : Nat} (h : RowsAt w Tr cols rows g off) (hl : ∀ r, r ∈ rows → r.length = cols.length) :
    ∃ news : List Value, news.length = rows.length * cols.length ∧ (∀ j v, news[j]? = some v → w.cell? ((⟨g, off, none⟩ : Addr).add j) = some v) ∧
      ∀ (i j : Nat) (r : List LV) (x : LV) (c : BC), rows[i]? = some r → r[j]? = some x → cols[j]? = some c → ∃ u, news[i * cols.length + j]? = some u ∧ c.rep x u := by
  have hcell : ∀ (i j : Nat) (r : List LV) (x : LV) (c : BC), rows[i]? = some r → r[j]? = some x → cols[j]? = some c → ∃ u, w.cell? ⟨g, off + (i * cols.length + j), none⟩ = some u ∧ c.rep x u := h.2.2
  refine ⟨(List.range (rows.length * cols.length)).map fun k => (w.cell? ⟨g, off + k, none⟩).getD Go.undef, by simp, ?_, ?_⟩
  · intro j v hv
    rw [List.getElem?_map] at hv
    have hj : j < rows.length * cols.length := by
      rcases Nat.lt_or_ge j (rows.length * cols.length) with h | h
      · exact h
      · rw [List.getElem?_eq_none (by simpa using h)] at hv; simp at hv
    rw [List.getElem?_range hj] at hv
    simp only [Option.map_some, Option.some.injEq] at hv
    have hpos : 0 < cols.length := by
      rcases Nat.eq_zero_or_pos cols.length with h0 | h0
      · rw [h0] at hj; omega
      · exact h0
    have hi : j / cols.length < rows.length := by rw [Nat.div_lt_iff_lt_mul hpos]; exact hj
    have hk : j % cols.length < cols.length := Nat.mod_lt _ hpos
    have hr : rows[j / cols.length]? = some rows[j / cols.length] := List.getElem?_eq_getElem hi
    have hrl := hl _ (List.getElem_mem hi)
    have hx : rows[j / cols.length][j % cols.length]? = some (rows[j / cols.length][j % cols.length]'(by omega)) := List.getElem?_eq_getElem (by omega)
    have hc : cols[j % cols.length]? = some cols[j % cols.length] := List.getElem?_eq_getElem hk
    obtain ⟨u, hu, _⟩ := hcell _ _ _ _ _ hr hx hc
    rw [Nat.div_add_mod' j cols.length] at hu
    rw [hu] at hv
    simp only [Option.getD_some] at hv
    rw [Addr.add_lit, hu, hv]
  · intro i j r x c hr hx hc
    obtain ⟨u, hu, hrep⟩ := hcell i j r x c hr hx hc
    refine ⟨u, ?_, hrep⟩
    have hi : i < rows.length := by
      rcases Nat.lt_or_ge i rows.length with h | h
      · exact h
      · rw [List.getElem?_eq_none h] at hr; simp at hr
    have hj : j < cols.length := by
      rcases Nat.lt_or_ge j cols.length with h | h
      · exact h
      · rw [List.getElem?_eq_none h] at hc; simp at hc
    have hlt : i * cols.length + j < rows.length * cols.length := by
      have := Nat.mul_le_mul_right cols.length (show i + 1 ≤ rows.length from hi)
      rw [Nat.add_mul] at this
      omega
    rw [List.getElem?_map, List.getElem?_range hlt]
    simp only [Option.map_some]
    rw [hu]
    rfl
theorem tight_ok {β : Blk} {cols : List BC} {x : V2} {e : E} (h : tightOf cols x = some e) {v : Value} (hx : x.rep ρ β w v) : SlRep w β.avoid cols (e.den ρ).L v ∧ ∃ a n, v = .slice a n n := by
  unfold tightOf at h
  split at h
  · simp only [Option.some.injEq] at h; subst h
    simp only [V2.rep, V1.rep, CV.rep] at hx
    subst hx
    exact ⟨sl_nil _, none, 0, rfl⟩
  · split at h
    · rename_i hc; subst hc; simp only [Option.some.injEq] at h; subst h; exact hx
    · simp at h
  · simp at h
theorem rows_append {cols : List BC} {r1 r2 : List (List LV)} {n1 n2 : List Value} (h1 : n1.length = r1.length * cols.length)
    (g1 : ∀ (i j : Nat) (r : List LV) (x : LV) (c : BC), r1[i]? = some r → r[j]? = some x → cols[j]? = some c → ∃ u, n1[i * cols.length + j]? = some u ∧ c.rep x u)
    (g2 : ∀ (i j : Nat) (r : List LV) (x : LV) (c : BC), r2[i]? = some r → r[j]? = some x → cols[j]? = some c → ∃ u, n2[i * cols.length + j]? = some u ∧ c.rep x u) :
    ∀ (i j : Nat) (r : List LV) (x : LV) (c : BC), (r1 ++ r2)[i]? = some r → r[j]? = some x → cols[j]? = some c → ∃ u, (n1 ++ n2)[i * cols.length + j]? = some u ∧ c.rep x u := by
  intro i j r x c hr hx hc
  rcases Nat.lt_or_ge i r1.length with hlt | hge
  · rw [List.getElem?_append_left hlt] at hr
    obtain ⟨u, hu, hrep⟩ := g1 i j r x c hr hx hc
    refine ⟨u, ?_, hrep⟩
    rw [List.getElem?_append_left]
    · exact hu
    · rcases Nat.lt_or_ge (i * cols.length + j) n1.length with h | h
      · exact h
      · rw [List.getElem?_eq_none h] at hu; simp at hu
  · rw [List.getElem?_append_right hge] at hr
    obtain ⟨u, hu, hrep⟩ := g2 (i - r1.length) j r x c hr hx hc
    refine ⟨u, ?_, hrep⟩
    have hle : r1.length * cols.length ≤ i * cols.length := Nat.mul_le_mul_right _ hge
    rw [List.getElem?_append_right (by omega), h1, ← hu]
    congr 1
    rw [Nat.sub_mul]
    omega
theorem mAppend_ok (hM : Mt C ρ p S a w) {ts : List TypeId} {x y z : V2} {ns : List E} (h : mAppend P ts x y = some (z, ns)) (hn : ∀ e, e ∈ ns → (e.den ρ).B = true) {vx vy : Value}
    (hx : x.rep ρ (blk C.av p S) w vx) (hy : y.rep ρ (blk C.av p S) w vy) (ty : TypeId) :
    ∃ v w', (Builtin.append_ ts.toArray ty #[vx, vy]).run P w = .ok v w' ∧ Ext (blk C.av p S).trk w w' ∧ (∀ k, k < w.heap.size → w'.heap[k]? = w.heap[k]?) ∧ z.rep ρ (blk C.av p S) w' v := by
  unfold mAppend at h
  split at h
  · rename_i t t' cols ey
    split at h
    · rename_i htt
      subst htt
      split at h
      · rename_i e hu
        split at h
        · rename_i inf ex hinf htx
          unfold appendE at h
          split at h
          · rename_i zv hz
            split at h
            · rename_i hc
              obtain ⟨hsize, hzs, hpos⟩ := hc
              simp only [Option.some.injEq, Prod.mk.injEq] at h
              obtain ⟨rfl, rfl⟩ := h
              have hby := hn _ (List.mem_singleton.2 rfl)
              simp only [E.den, O2.ev, LV.B_b, LV.I_i] at hby
              replace hby := of_decide_eq_true hby
              obtain ⟨⟨ax, cx, hvx, hcapx, hmx, hcx, hrx⟩, a0, n0, hv0⟩ := tight_ok htx hx
              obtain ⟨ay, cy, hvy, hcapy, hmy, hcy, hry⟩ := hy
              rw [hvx] at hv0
              simp only [Value.slice.injEq] at hv0
              obtain ⟨rfl, hn0, hcx0⟩ := hv0
              have hcx0 : cx = (ex.den ρ).L.length := by omega
              subst hcx0
              clear hn0 hcapx
              generalize hRx : (ex.den ρ).L = rx at *
              generalize hRy : (ey.den ρ).L = ry at *
              have hlen : (rx.length + ry.length) * inf.bytes ≤ 140737488355328 := by
                have h1 : rx.length + ry.length ≤ 140737488355328 / max 1 inf.bytes := by omega
                rw [Nat.le_div_iff_mul_le (by omega)] at h1
                exact Nat.le_trans (Nat.mul_le_mul_left _ (by omega)) h1
              have h63 : rx.length + ry.length ≤ 140737488355328 := by
                have h1 : rx.length + ry.length ≤ 140737488355328 / max 1 inf.bytes := by omega
                exact Nat.le_trans h1 (Nat.div_le_self _ _)
              subst hvx hvy
              by_cases hy0 : ry = []
              · subst hy0
                refine ⟨.slice ax rx.length rx.length, w, ?_, Ext.refl _ _, fun _ _ => rfl, ?_⟩
                · cases ay <;> cases ax <;> simp [Builtin.append_, run_underlying hu, sizeOf, typeInfo, hinf, Builtin.lenOf, Builtin.firstCells, loadCells, loadCellsFrom, storeCells]
                · simp only [V2.rep, V1.rep, CV.rep, Col.rep, E.den, O2.ev, LV.L_l]
                  rw [hRx, hRy, List.append_nil]
                  exact ⟨ax, rx.length, rfl, Nat.le_refl _, hmx, hcx, hrx⟩
              · obtain ⟨gy, oy, rfl, hrowy⟩ := hry hy0
                obtain ⟨news, hnl, hnc, hnr⟩ := rows_cells hrowy hcy
                have hy1 : 0 < ry.length := List.length_pos_iff.2 hy0
                have hfresh : ¬ (blk C.av p S).avoid w.heap.size := by
                  rintro (h1 | h1)
                  · have := hM.avlt _ h1
                    have := hM.grown
                    omega
                  · have := hM.trk_lt h1
                    omega
                have fin : ∀ (olds : List Value) (cap : Nat) (zs : Array Value), olds.length = rx.length * cols.length → (∀ (i j : Nat) (r : List LV) (x : LV) (c : BC), rx[i]? = some r → r[j]? = some x → cols[j]? = some c → ∃ u, olds[i * cols.length + j]? = some u ∧ c.rep x u) →
                    rx.length + ry.length ≤ cap → V2.rep ρ (blk C.av p S) (w.drew.alloc (.cells (olds.toArray ++ news.toArray ++ zs) e)) (.one (.cell (.ex (.sl cols) (.op2 .cat ex ey)))) (.slice (some ⟨w.heap.size, 0, none⟩) (rx.length + ry.length) cap) := by
                  intro olds cap zs ho hor hcap
                  simp only [V2.rep, V1.rep, CV.rep, Col.rep, E.den, O2.ev, LV.L_l]
                  rw [hRx, hRy]
                  refine ⟨_, cap, by rw [List.length_append], by rw [List.length_append]; exact hcap, by rw [List.length_append]; omega, fun r hr => ?_, fun _ => ⟨w.heap.size, 0, rfl, ?_, hfresh, ?_⟩⟩
                  · rcases List.mem_append.1 hr with h | h
                    · exact hcx r h
                    · exact hcy r h
                  · show w.heap.size < (w.drew.alloc _).heap.size
                    simp
                  · intro i j r x c hi hj hcc
                    obtain ⟨u, hu1, hu2⟩ := rows_append ho hor hnr i j r x c hi hj hcc
                    refine ⟨u, ?_, hu2⟩
                    have := World.cell?_alloc_new w.drew (olds.toArray ++ news.toArray ++ zs) e (i * cols.length + j)
                    rw [Nat.zero_add]
                    have e1 : w.drew.heap.size = w.heap.size := rfl
                    rw [e1] at this
                    rw [this]
                    have hlt : i * cols.length + j < (olds ++ news).length := by
                      rcases Nat.lt_or_ge (i * cols.length + j) (olds ++ news).length with h | h
                      · exact h
                      · rw [List.getElem?_eq_none h] at hu1; simp at hu1
                    have e2 : (olds.toArray ++ news.toArray ++ zs)[i * cols.length + j]? = (olds ++ news)[i * cols.length + j]? := by
                      rw [Array.getElem?_append_left (by simpa using hlt)]
                      simp
                    rw [e2, hu1]
                have hext : ∀ o : Obj, Ext (blk C.av p S).trk w (w.drew.alloc o) ∧ ∀ k, k < w.heap.size → (w.drew.alloc o).heap[k]? = w.heap[k]? := fun o =>
                  ⟨⟨rfl, rfl, rfl, by show w.heap.size ≤ (w.drew.alloc o).heap.size; simp, fun k hk _ => Below.heap_alloc w.drew o k hk⟩, fun k hk => Below.heap_alloc w.drew o k hk⟩
                have hnews : news.length = ry.length * inf.size := by rw [hsize]; exact hnl
                cases ax with
                | none =>
                  have hx0 : rx = [] := by
                    cases rx with
                    | nil => rfl
                    | cons r rs => obtain ⟨_, _, h, _⟩ := hrx (by simp); simp at h
                  subst hx0
                  have hr := run_append_nil (P := P) w t ty e inf zv hu hinf hz ⟨gy, oy, none⟩ ry.length cy news hnews hnc hy1 (by omega) (by simp only [List.length_nil, Nat.zero_add] at hlen; omega)
                  have hcap := grownCap_ge w ry.length 0 e
                  have hf := fin [] _ (Builtin.zeroCells zv.cells (grownCap w ry.length 0 e - ry.length)) (by simp) (by simp) (by simpa using hcap)
                  simp only [List.length_nil, Nat.zero_add] at hf
                  have e3 : (([] : List Value).toArray ++ news.toArray) = news.toArray := by simp
                  rw [e3] at hf
                  exact ⟨_, _, hr, (hext _).1, (hext _).2, hf⟩
                | some b =>
                  obtain ⟨olds, hol, hoc, hor⟩ : ∃ olds : List Value, olds.length = rx.length * cols.length ∧ (∀ j v, olds[j]? = some v → w.cell? (b.add j) = some v) ∧
                      ∀ (i j : Nat) (r : List LV) (x : LV) (c : BC), rx[i]? = some r → r[j]? = some x → cols[j]? = some c → ∃ u, olds[i * cols.length + j]? = some u ∧ c.rep x u := by
                    by_cases hx0 : rx = []
                    · subst hx0; exact ⟨[], by simp, by simp, by simp⟩
                    · obtain ⟨gx, ox, hb, hrowx⟩ := hrx hx0
                      simp only [Option.some.injEq] at hb
                      subst hb
                      exact rows_cells hrowx hcx
                  have hr := run_append_grow (P := P) w t ty e inf zv hu hinf hz b rx.length rx.length olds (by rw [hsize]; exact hol) hoc ⟨gy, oy, none⟩ ry.length cy news hnews hnc (by omega) (by omega) (growslice_fits (by omega) hlen)
                  have hcap := grownCap_ge w (rx.length + ry.length) rx.length e
                  exact ⟨_, _, hr, (hext _).1, (hext _).2, fin olds _ _ hol hor hcap⟩
            · simp at h
          · simp at h
        · simp at h
      · simp at h
    · simp at h
  · simp at h
end
end Go.Proofs.Ythhnnfmfeofknaa.Sy
