/-
  A symbolic evaluator for the model's code, part T: from a contract to what a row asks of a call.
-/
import Derived.Test.YthhnnfmfeofknaaSyS
namespace Go.Proofs.Ythhnnfmfeofknaa.Sy
open Go Go.RowKit Go.ChangeShapes Go.WideShapes
set_option linter.unusedSimpArgs false
set_option linter.unusedVariables false

abbrev I64 : Col := .base (.int .i64)
def argOk (P : Program) (t : TypeId) : PSh → Bool
  | .col c => decide (colsOf P 12 t = some [c]) && (okT P 12 t && (P.readableRec t && (decide (t < P.types.size) && (match P.underlying t with
    | some (.int _) => true
    | some .bool => true
    | some (.slice _) => true
    | _ => false))))
  | .agg cs => decide (colsOf P 12 t = some cs) && (okT P 12 t && (P.readableRec t && (decide (t < P.types.size) && (match P.underlying t with
    | some (.struct _) => true
    | _ => false))))
  | _ => false
def argsOk (P : Program) : List TypeId → List PSh → Bool
  | [], [] => true
  | t :: ts, p :: ps => argOk P t p && argsOk P ts ps
  | _, _ => false

section
variable {H : Type} {enc : TypeId × Value → H} {P : Program} {w : World} {Tr : Nat → Prop}

theorem args_rep : ∀ {ts : List TypeId} {ps : List PSh} {vs : List Value} {ds : List (DataW H)} {pl : List MemPlace}, argsOk P ts ps = true → DataW.TrodAll enc P w 0 (fun _ => true) true ts vs ds pl →
    (∀ (j : Nat) t v, ts[j]? = some t → vs[j]? = some v → ∃ b, Value.okWide P w .any b t v) → (∀ p, p ∈ pl → ¬ Tr p.block) → (∀ p, p ∈ pl → p.block < w.heap.size) → ∃ ls, PRep w Tr ps ls [] vs ∧ PFit ps ls := by
  intro ts
  induction ts with
  | nil =>
    intro ps vs ds pl hok h hval hTr hlt
    cases ps with
    | nil =>
      obtain ⟨rfl, rfl, rfl⟩ := trodAll_nil h
      exact ⟨[], ⟨rfl, rfl, rfl⟩, rfl⟩
    | cons _ _ => simp [argsOk] at hok
  | cons t ts ih =>
    intro ps vs ds pl hok h hval hTr hlt
    cases ps with
    | nil => simp [argsOk] at hok
    | cons s ps =>
      simp only [argsOk, Bool.and_eq_true] at hok
      obtain ⟨v, vs', d, ds', p, q, rfl, rfl, rfl, hd, hrest⟩ := trodAll_cons h
      obtain ⟨ls, i1, i2⟩ := ih hok.2 hrest (fun j t' v' h1 h2 => hval (j + 1) t' v' (by simpa using h1) (by simpa using h2)) (fun p hp => hTr p (List.mem_append_right _ hp)) (fun p hp => hlt p (List.mem_append_right _ hp))
      obtain ⟨b, hv⟩ := hval 0 t v rfl rfl
      obtain ⟨fuel, hf⟩ := hd
      cases s with
      | col c =>
        simp only [argOk, Bool.and_eq_true, decide_eq_true_eq] at hok
        obtain ⟨⟨hc, hk, hr, hsz, hu⟩, _⟩ := hok
        obtain ⟨l1, c1, c2⟩ := trod_cols (enc := enc) (P := P) (w := w) (Tr := Tr) 12 t [c] hc hk fuel _ _ hf (fun p hp => hTr p (List.mem_append_left _ hp)) (fun p hp => hlt p (List.mem_append_left _ hp))
        have hcell : v.cells.toList = [v] := by
          split at hu
          · rename_i k hu'; obtain ⟨n, rfl⟩ := okWide_int hu' hv; rfl
          · rename_i hu'; obtain ⟨n, rfl⟩ := okWide_bool hu' hv; rfl
          · rename_i e hu'; obtain ⟨a, len, cap, rfl⟩ := okWide_slice hu' hv; rfl
          · simp at hu
        rw [hcell] at c1
        cases c2 with
        | cons h1 h2 =>
          cases h2
          exact ⟨_ :: ls, ⟨_, ls, v, vs', rfl, rfl, c1.1, i1⟩, ⟨_, ls, rfl, h1, i2⟩⟩
      | agg cs =>
        simp only [argOk, Bool.and_eq_true, decide_eq_true_eq] at hok
        obtain ⟨⟨hc, hk, hr, hsz, hu⟩, _⟩ := hok
        obtain ⟨l1, c1, c2⟩ := trod_cols (enc := enc) (P := P) (w := w) (Tr := Tr) 12 t cs hc hk fuel _ _ hf (fun p hp => hTr p (List.mem_append_left _ hp)) (fun p hp => hlt p (List.mem_append_left _ hp))
        split at hu
        · rename_i fs hu'
          obtain ⟨us, rfl, _⟩ := okWide_struct hu' hv
          refine ⟨l1 ++ ls, ⟨l1, ls, us.toList, vs', rfl, by simp, c1, i1⟩, ⟨l1, ls, rfl, c2, i2⟩⟩
        · simp at hu
      | ptr _ _ => simp [argOk] at hok
      | fn _ => simp [argOk] at hok
theorem args_stay {W W' : World} (hl : laidOutB P = true) (hb : Below W.heap.size W W') : ∀ {ts : List TypeId} {ps : List PSh} {vs : List Value} {ds : List (DataW H)} {pl : List MemPlace}, argsOk P ts ps = true → DataW.TrodAll enc P W 0 (fun _ => true) true ts vs ds pl →
    (∀ p, p ∈ pl → p.block < W.heap.size) → DataW.TrodAll enc P W' 0 (fun b => decide (b < W.heap.size)) true ts vs ds pl := by
  intro ts
  induction ts with
  | nil =>
    intro ps vs ds pl _ h _
    obtain ⟨rfl, rfl, rfl⟩ := trodAll_nil h
    exact trodAll_mk0
  | cons t ts ih =>
    intro ps vs ds pl hok h hlt
    cases ps with
    | nil => simp [argsOk] at hok
    | cons s ps =>
      simp only [argsOk, Bool.and_eq_true] at hok
      obtain ⟨v, vs', d, ds', p, q, rfl, rfl, rfl, hd, hrest⟩ := trodAll_cons h
      have h2 := ih hok.2 hrest (fun p hp => hlt p (List.mem_append_right _ hp))
      have hrs : P.readableRec t = true ∧ t < P.types.size := by
        cases s with
        | col c => simp only [argOk, Bool.and_eq_true, decide_eq_true_eq] at hok; exact ⟨hok.1.2.2.1, hok.1.2.2.2.1⟩
        | agg c => simp only [argOk, Bool.and_eq_true, decide_eq_true_eq] at hok; exact ⟨hok.1.2.2.1, hok.1.2.2.2.1⟩
        | ptr _ _ => simp [argOk] at hok
        | fn _ => simp [argOk] at hok
      exact ⟨p, q, Below.trod hl hrs.1 hrs.2 hd hb (fun x hx => hlt x (List.mem_append_left _ hx)), h2, rfl⟩
/-- WHAT A ROW ASKS OF A CALL THAT SAYS 'true'. -/
theorem law_calls {f : FuncId} {fn : Func} {s : ChangeSpec} {key : Nat} {ps : List PSh} {Φ : Nat → List LV → List LV} {Pr : Nat → List LV → Prop} {b : TypeId} (hcon : ConOk P Φ Pr ⟨key, f, ps, [.col (.base .bool)]⟩) (hl : laidOutB P = true)
    (hargs : argsOk P fn.params.toList ps = true) (hres : fn.resultTypes = #[b]) (hb : P.underlying b = some .bool) (hvars : s.vars = [])
    (hspec : ∀ ds : List (DataW H), ds.length = fn.params.size → s.fn H ds = { results := [.lit (.bool true)], args := ds })
    (hlaw : ∀ ls, PFit ps ls → Pr key ls ∧ (outOf (Φ key ls) 0).B = true) {W : World} {base : Nat} {args : Array Value} {ds gs : List (DataW H)} {before : List MemPlace}
    (hval : ∀ (j : Nat) t v, fn.params[j]? = some t → args[j]? = some v → Value.okWide P W .any base t v)
    (hW : DataW.Whole enc P fn.params.toList s.vars false W args.toList ds gs before) :
    Calls P f args W fun e W' => ∃ v, e = .returned v ∧ s.post enc P fn false true false false W args v W' := by
  have hWlt := hW.lt
  have hW' := hW
  obtain ⟨p, q, hA, hV, rfl, hfz, hnd⟩ := hW
  rw [hvars] at hV
  obtain ⟨rfl, rfl⟩ := trodVars_none hV
  simp only [List.append_nil] at hWlt
  obtain ⟨ls, hrep, hfit⟩ := args_rep (Tr := fun _ => False) hargs hA (fun j t v h1 h2 => ⟨base, hval j t v (by simpa using h1) (by simpa using h2)⟩) (fun _ _ h => h) hWlt
  obtain ⟨hp, ht⟩ := hlaw ls hfit
  have hc := hcon.calls ls [] args.toList W (fun _ => False) (fun _ h => h.elim) (by simp) List.nodup_nil hrep hp
  simp only [Array.toArray_toList] at hc
  refine hc.mono ?_
  rintro e W' ⟨us, rfl, hext, hr, _⟩
  obtain ⟨u, us', rfl, hu, rfl⟩ := hr
  have hu : u = .bool true := by
    simp only [Col.rep, BC.rep] at hu
    rw [hu, ht]
  subst hu
  have hmut : ∀ ps : List PSh, mutOf ps [] = [] := by
    intro ps
    induction ps with
    | nil => rfl
    | cons q ps ih => cases q with
      | ptr m _ => cases m <;> rfl
      | _ => exact ih
  have hbelow : Below W.heap.size W W' := ⟨hext.os, hext.tape, hext.output, hext.size, fun k hk => hext.same k hk (by simp only [hmut]; simp)⟩
  have hlen : ds.length = fn.params.size := by
    have : ∀ {ts : List TypeId} {vs : List Value} {ds : List (DataW H)} {pl : List MemPlace}, DataW.TrodAll enc P W 0 (fun _ => true) true ts vs ds pl → ds.length = ts.length := by
      intro ts
      induction ts with
      | nil => intro vs ds pl h; obtain ⟨_, rfl, _⟩ := trodAll_nil h; rfl
      | cons t ts ih => intro vs ds pl h; obtain ⟨v, vs', d, ds', p, q, _, rfl, _, _, hr⟩ := trodAll_cons h; simp [ih hr]
    rw [this hA]; simp
  have hs : s.fn H (ds ++ []) = { results := [.lit (.bool true)], args := ds } := by rw [List.append_nil]; exact hspec ds hlen
  refine ⟨.bool true, rfl, ds, [], p ++ [], [], p, [], hW', ?_, ?_, ?_, ?_, fun h => by simp at h⟩
  · rw [hs, hres]
    exact trodAll_mk1 (shut_bool hb true)
  · rw [hs]
    exact args_stay hl hbelow hargs hA hWlt
  · rw [hs, hvars]
    rfl
  · exact hbelow.frame _
end
end Go.Proofs.Ythhnnfmfeofknaa.Sy
