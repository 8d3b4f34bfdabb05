/-
  A symbolic evaluator for the model's code, part P: soundness of 'exec'.
-/
import Derived.Test.YthhnnfmfeofknaaSyO
namespace Go.Proofs.Ythhnnfmfeofknaa.Sy
open Go Go.RowKit
set_option linter.unusedSimpArgs false
set_option linter.unusedVariables false

section
variable {Φ : Nat → List LV → List LV} {Pr : Nat → List LV → Prop} {T : Set} {C : Ctx}

/-- As 'Mt.less', into another environment. -/
theorem Mt.turn {ρ ρ' : Env} {p : Nat → Nat} {S S' : Sm} {a : Act} {w : World} (h : Mt C ρ p S a w) (hlive0 : ∀ b x, S' (1, b) = some x → S (1, b) = some x)
    (htmp : ∀ t x, S' (0, t) = some x → ∃ y, S (0, t) = some y ∧ ∀ v, y.rep ρ (blk C.av p S) w v → x.rep ρ' (blk C.av p S') w v)
    (hcell : ∀ b o x, S' (b + 2, o) = some x → ∃ y, S (b + 2, o) = some y ∧ ∀ c, y = .one (.cell c) → ∃ c', x = .one (.cell c') ∧ ∀ v, c.rep ρ (blk C.av p S) w v → c'.rep ρ' (blk C.av p S') w v) :
    Mt C ρ' p S' a w := by
  have hlive : ∀ b, (S' (1, b)).isSome = true → (S (1, b)).isSome = true := fun b hb => by
    obtain ⟨x, hx⟩ := Option.isSome_iff_exists.1 hb
    rw [hlive0 b x hx]; rfl
  refine ⟨h.defers, h.size, ?_, ?_, fun b hb => h.live b (hlive b hb), fun b b' hb hb' => h.inj b b' (hlive b hb) (hlive b' hb'), h.par, h.kept, h.os, h.tape, h.output, h.grown, h.avlt⟩
  · intro t x hx
    obtain ⟨y, hy, hr⟩ := htmp t x hx
    exact hr _ (h.tmp t y hy)
  · intro b o x m hb hm hx
    obtain ⟨y, hy, hr⟩ := hcell b o x hx
    obtain ⟨c, u, rfl, h1, h2, h3⟩ := h.cell b o y m (hlive0 b _ hb) hm hy
    obtain ⟨c', rfl, hr'⟩ := hr c rfl
    exact ⟨c', u, rfl, h1, hr' _ h2, h3⟩
theorem hvOf_mem : ∀ {M : Hv} {n : Nat} {l : Loc} {x : V2}, look (hvOf M n) l = some (some x) → ∃ j c, j < hvLen M ∧ x = .one (.cell (.ex c (.v (n + j)))) ∧ ∀ {Z : St} {es : List E}, esOf M Z = some es → es.length = hvLen M ∧ ∃ e, es[j]? = some e ∧ cellX c (Z.get l) = some e := by
  intro M
  induction M with
  | nil => intro n l x h; simp [hvOf, look] at h
  | cons q r ih =>
    intro n l x h
    obtain ⟨k, c⟩ := q
    cases c with
    | none =>
      simp only [hvOf, look] at h
      split at h
      · simp at h
      · obtain ⟨j, c, h1, h2, h3⟩ := ih h
        exact ⟨j, c, h1, h2, fun he => h3 he⟩
    | some c =>
      simp only [hvOf, look] at h
      split at h
      · rename_i hk
        have hk : k = l := Prod.ext hk.1 hk.2
        subst hk
        simp only [Option.some.injEq] at h
        refine ⟨0, c, by simp [hvLen], h.symm, fun {Z es} he => ?_⟩
        simp only [esOf, Option.bind_eq_some_iff, Option.map_eq_some_iff] at he
        obtain ⟨e, h1, es', h2, rfl⟩ := he
        refine ⟨?_, e, rfl, h1⟩
        clear h1 ih
        have : ∀ (r : Hv) (es' : List E), esOf r Z = some es' → es'.length = hvLen r := by
          intro r
          induction r with
          | nil => intro es' h; simp only [esOf, Option.some.injEq] at h; subst h; rfl
          | cons q r ih =>
            intro es' h
            obtain ⟨k, c⟩ := q
            cases c with
            | none => exact ih es' h
            | some c =>
              simp only [esOf, Option.bind_eq_some_iff, Option.map_eq_some_iff] at h
              obtain ⟨e, h1, es', h2, rfl⟩ := h
              simp [hvLen, ih es' h2]
        simp [hvLen, this r es' h2]
      · obtain ⟨j, c', h1, h2, h3⟩ := ih h
        refine ⟨j + 1, c', by simp [hvLen]; omega, by rw [h2, show n + 1 + j = n + (j + 1) by omega], fun {Z es} he => ?_⟩
        simp only [esOf, Option.bind_eq_some_iff, Option.map_eq_some_iff] at he
        obtain ⟨e, _, es', h5, rfl⟩ := he
        obtain ⟨h6, e', h7, h8⟩ := h3 h5
        exact ⟨by simp [hvLen, h6], e', by simpa using h7, h8⟩
theorem nextAt_at {f : List LV → Prop} {ext : List (List LV → Prop)} {xs : List LV} : ∀ {ks : List (List LV → Prop)}, nextAt (ks ++ ([f] ++ ext)) ks.length xs ↔ f xs := by
  intro ks
  induction ks with
  | nil => exact Iff.rfl
  | cons g r ih => exact ih
theorem cellX_ok {c : Col} {y : Option V2} {e : E} (h : cellX c y = some e) : ∃ x, y = some (.one (.cell x)) ∧ cellE c x = some e := by
  unfold cellX at h
  split at h
  · rename_i x; exact ⟨x, rfl, h⟩
  · simp at h
theorem newB_ok {S : St} {b : Nat} : ∀ {u : St}, keyLoc (1, b) u = true → S.get (1, b) = none → b ∈ newB S u := by
  intro u
  induction u with
  | nil => intro h; simp [keyLoc] at h
  | cons e r ih =>
    intro h hS
    obtain ⟨l, x⟩ := e
    simp only [keyLoc, Bool.or_eq_true, Bool.and_eq_true, decide_eq_true_eq] at h
    simp only [newB]
    rcases h with ⟨h1, h2⟩ | h
    · have hl : l = (1, b) := Prod.ext h1 h2
      subst hl
      simp [hS]
    · have := ih h hS
      split
      · split
        · exact List.mem_cons_of_mem _ this
        · exact this
      · exact this
/-- From the end of a round, or from the start, to the head of the loop. -/
theorem head_ok {ρ ρ' : Env} {p : Nat → Nat} {S u : St} {M : Hv} {n : Nat} {Z : St} {es : List E} {a : Act} {w : World} (hM : Mt C ρ' p Z.get a w) (hes : esOf M Z = some es)
    (hZ : ∀ l, keyLoc l (hvOf M n) = false → keyLoc l u = false → Z.get l = S.get l) (hZu : ∀ l, keyLoc l (hvOf M n) = false → keyLoc l u = true → Z.get l = u.get l)
    (hkeep : keepOk (hvOf M n) S u = true) (hnm : noMark (hvOf M n) = true) (hnew : ((newB S u).isEmpty || S.noPtr (newB S u)) = true) (hok : S.okB n = true) (hρ : ∀ i, i < n → ρ' i = ρ i) :
    Mt C (setE ρ n (hvLen M) (es.map (·.den ρ'))) p (hvOf M n ++ S).get a w := by
  have hget : ∀ l, (hvOf M n ++ S).get l = if keyLoc l (hvOf M n) then (hvOf M n).get l else S.get l := by
    intro l
    split
    · rename_i hk
      rw [keyLoc_eq] at hk
      obtain ⟨x, hx⟩ := Option.isSome_iff_exists.1 hk
      simp only [St.get, look_append, hx]
      rfl
    · rename_i hk
      exact get_key (by simpa using hk)
  have hmark : ∀ b, keyLoc (1, b) (hvOf M n) = false := by
    intro b
    cases hk : keyLoc (1, b) (hvOf M n) with
    | false => rfl
    | true =>
      rw [keyLoc_eq] at hk
      obtain ⟨x, hx⟩ := Option.isSome_iff_exists.1 hk
      have := List.all_eq_true.1 hnm _ (look_mem hx)
      simp at this
  have hold : ∀ l x, keyLoc l (hvOf M n) = false → S.get l = some x → Z.get l = some x := by
    intro l x hk hx
    cases hu : keyLoc l u with
    | false => rw [hZ l hk hu]; exact hx
    | true =>
      rw [hZu l hk hu]
      rw [keyLoc_eq] at hu
      obtain ⟨y, hy⟩ := Option.isSome_iff_exists.1 hu
      have := List.all_eq_true.1 hkeep _ (look_mem hy)
      simp only [hk, Bool.false_or, Bool.or_eq_true, decide_eq_true_eq] at this
      rcases this with h | h
      · rw [hx] at h; simp at h
      · rw [← h]; exact hx
  have hshr : Shr (newB S u) (blk C.av p Z.get) (blk C.av p (hvOf M n ++ S).get) := by
    refine ⟨rfl, rfl, fun b hb => ?_, fun b hb hnd => ?_⟩
    · have hb : ((hvOf M n ++ S).get (1, b)).isSome = true := hb
      rw [hget, hmark b] at hb
      simp only [Bool.false_eq_true, if_false] at hb
      obtain ⟨x, hx⟩ := Option.isSome_iff_exists.1 hb
      show (Z.get (1, b)).isSome = true
      rw [hold _ x (hmark b) hx]; rfl
    · show ((hvOf M n ++ S).get (1, b)).isSome = true
      rw [hget, hmark b]
      simp only [Bool.false_eq_true, if_false]
      cases hS : S.get (1, b) with
      | some x => rfl
      | none =>
        cases hu : keyLoc (1, b) u with
        | true => exact absurd (newB_ok hu hS) hnd
        | false =>
          have hb : (Z.get (1, b)).isSome = true := hb
          rw [hZ _ (hmark b) hu, hS] at hb
          simp at hb
  have hSrep : ∀ l x, S.get l = some x → (∀ v, x.rep ρ' (blk C.av p Z.get) w v → x.rep (setE ρ n (hvLen M) (es.map (·.den ρ'))) (blk C.av p (hvOf M n ++ S).get) w v) := by
    intro l x hx v hv
    have hl : look S l = some (some x) := by
      simp only [St.get] at hx
      cases hl : look S l with
      | none => rw [hl] at hx; simp at hx
      | some y => rw [hl] at hx; simp at hx; rw [hx]
    have hxok := List.all_eq_true.1 hok _ (look_mem hl)
    refine V2.env (f := fun i => decide (i < n)) (ρ := ρ') (fun i hi => ?_) hxok (V2.shr hshr (noPtr_get hnew hx) hv)
    have hi : i < n := of_decide_eq_true hi
    rw [setE_lt hi, hρ i hi]
  have hHv : ∀ l x, keyLoc l (hvOf M n) = true → (hvOf M n).get l = some x → ∃ y c', Z.get l = some (.one (.cell y)) ∧ x = .one (.cell c') ∧ ∀ v, y.rep ρ' (blk C.av p Z.get) w v → c'.rep (setE ρ n (hvLen M) (es.map (·.den ρ'))) (blk C.av p (hvOf M n ++ S).get) w v := by
    intro l x _ hx
    have hl : look (hvOf M n) l = some (some x) := by
      simp only [St.get] at hx
      cases hl : look (hvOf M n) l with
      | none => rw [hl] at hx; simp at hx
      | some y => rw [hl] at hx; simp at hx; rw [hx]
    obtain ⟨j, c, hj, rfl, h3⟩ := hvOf_mem hl
    obtain ⟨hlen, e, he, hce⟩ := h3 hes
    obtain ⟨y, hy, hce⟩ := cellX_ok hce
    refine ⟨y, .ex c (.v (n + j)), hy, rfl, fun v hv => ?_⟩
    have h1 := cellE_ok hce hv
    have h2 : E.den (setE ρ n (hvLen M) (es.map (·.den ρ'))) (.v (n + j)) = e.den ρ' := by
      show setE ρ n (hvLen M) (es.map (·.den ρ')) (n + j) = _
      rw [setE_in hj]
      simp [outOf, he]
    show c.rep w (blk C.av p (hvOf M n ++ S).get).avoid (E.den (setE ρ n (hvLen M) (es.map (·.den ρ'))) (.v (n + j))) v
    rw [h2]
    exact Col.lasts h1 (Nat.le_refl _) (fun _ _ _ => rfl) (fun i _ hn => hshr.avoid hn)
  refine hM.turn ?_ ?_ ?_
  · intro b x hx
    rw [hget, hmark b] at hx
    simp only [Bool.false_eq_true, if_false] at hx
    exact hold _ x (hmark b) hx
  · intro t x hx
    rw [hget] at hx
    split at hx
    · rename_i hk
      obtain ⟨y, c', h1, rfl, h3⟩ := hHv _ x hk hx
      exact ⟨_, h1, fun v hv => h3 v hv⟩
    · rename_i hk
      exact ⟨x, hold _ x (by simpa using hk) hx, hSrep _ x hx⟩
  · intro b o x hx
    rw [hget] at hx
    split at hx
    · rename_i hk
      obtain ⟨y, c', h1, rfl, h3⟩ := hHv _ x hk hx
      refine ⟨_, h1, fun c hc => ⟨c', rfl, ?_⟩⟩
      simp only [V2.one.injEq, V1.cell.injEq] at hc
      subst hc
      exact h3
    · rename_i hk
      refine ⟨x, hold _ x (by simpa using hk) hx, fun c hc => ⟨c, hc, ?_⟩⟩
      subst hc
      exact hSrep _ _ hx

theorem exec_ok (hcon : ∀ sg, sg ∈ T.sigs → ConOk T.P Φ Pr sg) (hnp : C.np = T.np ∧ C.ro = T.ro) (hm : T.P.follows .mixedOrders = true) : ∀ (c : Code) {S : St} {d s n s' n' : Nat} {t : Tr Lf}, exec T C.nt c S d s n = some (t, s', n') →
    ∀ {ρ : Env} {ks : List (List LV → Prop)} {K : Exit → Act → World → Prop} {p : Nat → Nat} {a : Act} {w : World}, ks.length = d → Mt C ρ p S.get a w → t.den Φ Pr ρ ks (Fits C S K) → c.wp T.P K a w := by
  have leaf : ∀ {ρ : Env} {ks : List (List LV → Prop)} {S : St} {K : Exit → Act → World → Prop} {p : Nat → Nat} {a : Act} {w : World} {e : Ex} {d : Nat}, ks.length = d → Mt C ρ p S.get a w → Fits C S K ρ ks ⟨e, [], d⟩ → K e.out a w :=
    fun hk hM h => h hk _ _ _ hM
  intro c
  induction c with
  | skip =>
    intro S d s n s' n' t h ρ ks K p a w hk hM ht
    simp only [exec, Option.some.injEq, Prod.mk.injEq] at h
    obtain ⟨rfl, rfl, rfl⟩ := h
    exact wp_skip (leaf hk hM ht)
  | label l =>
    intro S d s n s' n' t h ρ ks K p a w hk hM ht
    simp only [exec, Option.some.injEq, Prod.mk.injEq] at h
    obtain ⟨rfl, rfl, rfl⟩ := h
    exact wp_label (leaf hk hM ht)
  | exit id =>
    intro S d s n s' n' t h ρ ks K p a w hk hM ht
    simp only [exec, Option.some.injEq, Prod.mk.injEq] at h
    obtain ⟨rfl, rfl, rfl⟩ := h
    exact wp_exit (leaf hk hM ht)
  | ret =>
    intro S d s n s' n' t h ρ ks K p a w hk hM ht
    simp only [exec, Option.some.injEq, Prod.mk.injEq] at h
    obtain ⟨rfl, rfl, rfl⟩ := h
    exact wp_ret (leaf hk hM ht)
  | region id ops draw =>
    intro S d s n s' n' t h ρ ks K p a w hk hM ht
    exact execRegion_ok hcon hnp hm h hk hM ht
  | seq x y ix iy =>
    intro S d s n s' n' t h ρ ks K p a w hk hM ht
    simp only [exec, Option.bind_eq_some_iff] at h
    obtain ⟨⟨tx, s1, n1⟩, hx, hb⟩ := h
    refine wp_seq (ix hx hk hM ?_)
    have h1 := bindT_ok (Q := Fits C S K) (fun ρ k k' l hl hf => Fits.mono hl hf) tx hb ht
    refine Tr.mono 0 tx tx.from_zero (Le.refl ks) ?_ h1
    rintro ρ' k k' l ext hle _ _ ⟨s2, n2, t1, s3, n3, hf, ht1⟩ hlen p' a' w' hM'
    unfold thenL at hf
    split at hf
    · rename_i hex
      simp only [Option.map_eq_some_iff, Prod.mk.injEq] at hf
      obtain ⟨⟨ty, q⟩, hy, rfl, _⟩ := hf
      rw [hex]
      show y.wp T.P K a' w'
      rw [Tr.den_map] at ht1
      obtain ⟨s4, n4⟩ := q
      refine iy hy (ks := k) (by rw [hle.length]; exact hlen) hM' (Tr.mono 0 ty ty.from_zero (Le.refl k) ?_ ht1)
      intro ρ2 k2 k3 l2 ext2 hle2 _ _ hF hlen2 p2 a2 w2 hM2
      refine hF (by rw [hle2.length]; exact hlen2) p2 a2 w2 ?_
      rw [List.append_assoc]
      exact hM2
    · rename_i hex
      simp only [Option.some.injEq, Prod.mk.injEq] at hf
      obtain ⟨rfl, _, _⟩ := hf
      have := ht1 (by rw [hle.length]; exact hlen) p' a' w' hM'
      cases he : l.ex with
      | normal => exact absurd he hex
      | exit id => rw [he] at this; exact this
      | ret => rw [he] at this; exact this
  | cond o x y ix iy =>
    intro S d s n s' n' t h ρ ks K p a w hk hM ht
    simp only [exec] at h
    have hval : ∀ e, evalS S.get o = some (.one (.cell (.ex (.base .bool) e))) → a.eval o = .bool (e.den ρ).B := by
      intro e he
      have h1 : evalAll S.get [o] = some [.one (.cell (.ex (.base .bool) e))] := by simp [evalAll, he]
      have := evalAll_ok hM h1
      cases this with
      | cons h1 _ => exact h1
    split at h
    · rename_i b he
      have hv := hval _ he
      simp only [E.den, LV.B_b] at hv
      refine wp_cond hv ?_
      cases b with
      | true => exact ix h hk hM ht
      | false => exact iy h hk hM ht
    · rename_i e _ he
      have hv := hval _ he
      refine wp_cond hv ?_
      cases hx : exec T C.nt x S d s n with
      | some q =>
        obtain ⟨tx, s1, n1⟩ := q
        rw [hx] at h
        simp only at h
        cases hy : exec T C.nt y S d s1 n1 with
        | some r =>
          obtain ⟨ty, s2, n2⟩ := r
          rw [hy] at h
          simp only [Option.some.injEq, Prod.mk.injEq] at h
          obtain ⟨rfl, rfl, rfl⟩ := h
          have := squash1_ok ht
          simp only [Tr.den] at this
          split
          · rename_i hc; rw [if_pos hc] at this; exact ix hx hk hM this
          · rename_i hc; rw [if_neg hc] at this; exact iy hy hk hM this
        | none =>
          rw [hy] at h
          simp only [Option.some.injEq, Prod.mk.injEq] at h
          obtain ⟨rfl, rfl, rfl⟩ := h
          rw [if_pos ht.1]
          exact ix hx hk hM ht.2
      | none =>
        rw [hx] at h
        simp only [Option.map_eq_some_iff, Prod.mk.injEq] at h
        obtain ⟨⟨ty, s2, n2⟩, hy, rfl, rfl, rfl⟩ := h
        have h1 := ht.1
        simp only [E.den, O1.ev, LV.B_b, Bool.not_eq_true'] at h1
        rw [if_neg (by simp [h1])]
        exact iy hy hk hM ht.2
    · simp at h
  | block id x ix =>
    intro S d s n s' n' t h ρ ks K p a w hk hM ht
    simp only [exec, Option.map_eq_some_iff, Prod.mk.injEq] at h
    obtain ⟨⟨tx, s1, n1⟩, hx, rfl, rfl, rfl⟩ := h
    refine wp_block (ix hx hk hM ?_)
    have h1 := squash_ok ht
    rw [Tr.den_map] at h1
    refine Tr.mono 0 tx tx.from_zero (Le.refl ks) ?_ h1
    intro ρ' k k' l ext hle _ _ hF hlen p' a' w' hM'
    unfold unblock at hF
    cases he : l.ex with
    | normal =>
      rw [if_neg (by simp [he])] at hF
      have := hF (by rw [hle.length]; exact hlen) p' a' w' hM'
      rw [he] at this; exact this
    | ret =>
      rw [if_neg (by simp [he])] at hF
      have := hF (by rw [hle.length]; exact hlen) p' a' w' hM'
      rw [he] at this; exact this
    | exit id' =>
      by_cases hid : id' = id
      · subst hid
        rw [if_pos he] at hF
        have := hF (by rw [hle.length]; exact hlen) p' a' w' hM'
        show (if id' = id' then K .normal a' w' else _)
        rw [if_pos rfl]
        exact this
      · rw [if_neg (by simp [he, hid])] at hF
        have := hF (by rw [hle.length]; exact hlen) p' a' w' hM'
        rw [he] at this
        show (if id' = id then _ else K (.exit id') a' w')
        rw [if_neg hid]
        exact this
  | scope x ix =>
    intro S d s n s' n' t h ρ ks K p a w hk hM ht
    simp only [exec] at h
    refine wp_scope_straight (ix h hk hM ?_)
    refine Tr.mono 0 t t.from_zero (Le.refl ks) ?_ ht
    intro ρ' k k' l ext hle _ _ hF hlen p' a' w' hM'
    have := hF (by rw [hle.length]; exact hlen) p' a' w' hM'
    cases he : l.ex with
    | normal => rw [he] at this; exact this
    | ret => rw [he] at this; exact this
    | exit id' => rw [he] at this; exact this
  | loop x ix =>
    intro S d s n s' n' t h ρ ks K p a w hk hM ht
    simp only [exec] at h
    revert h
    generalize findM (fun Z m => exec T C.nt x Z (d + 1) s m) S n 6 [] = M
    intro h
    unfold loopX at h
    split at h
    case isFalse => simp at h
    rename_i hc
    simp only [Bool.and_eq_true] at hc
    obtain ⟨hok, hnm⟩ := hc
    simp only [Option.bind_eq_some_iff] at h
    obtain ⟨es, hes, ⟨tx, s1, n1⟩, hx, h⟩ := h
    split at h
    case isFalse => simp at h
    rename_i hfrom
    simp only [Option.map_eq_some_iff, Prod.mk.injEq] at h
    obtain ⟨⟨tb, s2, n2⟩, hb, rfl, rfl, rfl⟩ := h
    obtain ⟨k0, hk0⟩ := ht
    have rounds : ∀ (k : Nat) (xs : List LV), iter (fun ih xs => tb.den Φ Pr (setE ρ n (hvLen M) xs) (ks ++ [ih]) (Fits C S K)) k xs →
        ∀ p a w, Mt C (setE ρ n (hvLen M) xs) p (hvOf M n ++ S).get a w → Code.rounds T.P x K k a w := by
      intro k
      induction k with
      | zero => intro xs h; exact h.elim
      | succ k ihk =>
        intro xs hF p a w hMh
        rw [rounds_succ]
        refine ix hx (ks := ks ++ [iter (fun ih xs => tb.den Φ Pr (setE ρ n (hvLen M) xs) (ks ++ [ih]) (Fits C S K)) k]) (by simp [hk]) hMh ?_
        have h1 := bindT_ok (Q := Fits C S K) (fun ρ k k' l hl hf => Fits.mono hl hf) tx hb hF
        refine Tr.mono (n + hvLen M) tx hfrom (Le.refl _) ?_ h1
        rintro ρ' kk kk' l ext hle hext hρ' ⟨s3, n3, t1, s4, n4, hf, ht1⟩ hlen p' a' w' hM'
        unfold loopL at hf
        split at hf
        · rename_i hex
          split at hf
          case isFalse => simp at hf
          rename_i hback
          simp only [Bool.and_eq_true] at hback
          simp only [Option.map_eq_some_iff, Prod.mk.injEq] at hf
          obtain ⟨es', hes', rfl, _, _⟩ := hf
          rw [hex]
          show Code.rounds T.P x K k a' w'
          have hnx : nextAt kk' d (es'.map (·.den ρ')) := nextAt_mono hle ht1
          have hit : iter (fun ih xs => tb.den Φ Pr (setE ρ n (hvLen M) xs) (ks ++ [ih]) (Fits C S K)) k (es'.map (·.den ρ')) := by
            rw [hext, ← hk, List.append_assoc] at hnx
            exact nextAt_at.1 hnx
          refine ihk _ hit p' a' w' ?_
          refine head_ok (u := l.u) (Z := l.u ++ (hvOf M n ++ S)) hM' hes' ?_ ?_ hback.1 hnm hback.2 hok ?_
          · intro q h1 h2
            rw [get_key h2, get_key h1]
          · intro q h1 h2
            rw [keyLoc_eq] at h2
            obtain ⟨y, hy⟩ := Option.isSome_iff_exists.1 h2
            simp only [St.get, look_append, hy]
            rfl
          · intro i hi
            rw [hρ' i (by omega), setE_lt hi]
        · rename_i hex
          simp only [Option.some.injEq, Prod.mk.injEq] at hf
          obtain ⟨rfl, _, _⟩ := hf
          have := ht1 (by rw [hle.length]; exact hlen) p' a' w' (by rw [List.append_assoc]; exact hM')
          cases he : l.ex with
          | normal => exact absurd he hex
          | exit id => rw [he] at this; exact this
          | ret => rw [he] at this; exact this
    refine wp_loop_rounds k0 (rounds k0 _ hk0 p a w ?_)
    refine head_ok (u := []) (Z := S) hM hes (fun _ _ _ => rfl) (fun l _ h => by simp [keyLoc] at h) (by rfl) hnm (by rfl) hok (fun _ _ => rfl)
  | rangeFunc => intro S d s n s' n' t h; simp [exec] at h
  | goto l => intro S d s n s' n' t h; simp [exec] at h
  | refuse m => intro S d s n s' n' t h; simp [exec] at h
end
end Go.Proofs.Ythhnnfmfeofknaa.Sy
