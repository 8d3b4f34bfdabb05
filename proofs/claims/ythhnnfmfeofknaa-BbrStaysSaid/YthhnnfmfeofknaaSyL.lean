/-
  A symbolic evaluator for the model's code, part L: a region that draws its order: any order that the edges allow comes to what the order of the text comes to, if no two operations that the edges leave open touch one place.
-/
import Derived.Test.YthhnnfmfeofknaaSyK
namespace Go.Proofs.Ythhnnfmfeofknaa.Sy
open Go Go.RowKit
set_option linter.unusedSimpArgs false
set_option linter.unusedVariables false

def over (L : Nat → Bool) : Nat → List Rs → Sm → Sm
  | _, [], S => S
  | i, R :: rs, S => over L (i + 1) rs (if L i then upd S R.writes else S)
def wkey (R : Rs) (l : Loc) : Bool := (look R.writes l).isSome
theorem upd_same {S S' : Sm} {ws : St} {l : Loc} (h : S l = S' l) : upd S ws l = upd S' ws l := by simp only [upd, h]
theorem upd_not {S : Sm} {R : Rs} {l : Loc} (h : wkey R l = false) : upd S R.writes l = S l := by
  simp only [wkey, Option.isSome_eq_false_iff, Option.isNone_iff_eq_none] at h
  simp only [upd, h, Option.getD_none]
theorem upd_key {S S' : Sm} {R : Rs} {l : Loc} (h : wkey R l = true) : upd S R.writes l = upd S' R.writes l := by
  obtain ⟨x, hx⟩ := Option.isSome_iff_exists.1 h
  simp only [upd, hx, Option.getD_some]
theorem over_congr {L L' : Nat → Bool} {l : Loc} : ∀ (rs : List Rs) (i : Nat) (S S' : Sm), S l = S' l → (∀ k R, rs[k]? = some R → wkey R l = true → L (i + k) = L' (i + k)) → over L i rs S l = over L' i rs S' l := by
  intro rs
  induction rs with
  | nil => intro i S S' h _; exact h
  | cons R rs ih =>
    intro i S S' h hL
    simp only [over]
    refine ih (i + 1) _ _ ?_ (fun k R' hk hw => ?_)
    · cases hw : wkey R l with
      | true =>
        have := hL 0 R rfl hw
        rw [Nat.add_zero] at this
        rw [this]
        split
        · exact upd_same h
        · exact h
      | false => split <;> split <;> first | rw [upd_not hw, upd_not hw, h] | rw [upd_not hw, h] | exact h
    · have := hL (k + 1) R' (by simpa using hk) hw
      rwa [show i + (k + 1) = i + 1 + k by omega] at this
theorem over_none {L : Nat → Bool} {l : Loc} : ∀ (rs : List Rs) (i : Nat) (S : Sm), (∀ k R, rs[k]? = some R → wkey R l = true → L (i + k) = false) → over L i rs S l = S l := by
  intro rs
  induction rs with
  | nil => intro i S _; rfl
  | cons R rs ih =>
    intro i S h
    simp only [over]
    rw [ih (i + 1) _ (fun k R' hk hw => by
      have := h (k + 1) R' (by simpa using hk) hw
      rwa [show i + (k + 1) = i + 1 + k by omega] at this)]
    cases hw : wkey R l with
    | true => have := h 0 R rfl hw; rw [Nat.add_zero] at this; rw [this]; rfl
    | false => split <;> first | exact upd_not hw | rfl
theorem over_last {L : Nat → Bool} {l : Loc} {R0 : Rs} (hw0 : wkey R0 l = true) (S2 : Sm) : ∀ (rs : List Rs) (i k0 : Nat) (S : Sm), rs[k0]? = some R0 → L (i + k0) = true →
    (∀ k R, k0 < k → rs[k]? = some R → wkey R l = true → L (i + k) = false) → over L i rs S l = upd S2 R0.writes l := by
  intro rs
  induction rs with
  | nil => intro i k0 S h; simp at h
  | cons R rs ih =>
    intro i k0 S h hL hlater
    simp only [over]
    cases k0 with
    | zero =>
      simp at h
      subst h
      rw [Nat.add_zero] at hL
      rw [over_none rs (i + 1) _ (fun k R' hk hw => by
        have := hlater (k + 1) R' (by omega) (by simpa using hk) hw
        rwa [show i + (k + 1) = i + 1 + k by omega] at this)]
      rw [hL]
      exact upd_key hw0
    | succ k0 =>
      refine ih (i + 1) k0 _ (by simpa using h) (by rwa [show i + (k0 + 1) = i + 1 + k0 by omega] at hL) (fun k R' hk hkk hw => ?_)
      have := hlater (k + 1) R' (by omega) (by simpa using hkk) hw
      rwa [show i + (k + 1) = i + 1 + k by omega] at this
theorem over_insert {L L' : Nat → Bool} {rs : List Rs} {S : Sm} {k0 : Nat} {R0 : Rs} (h0 : rs[k0]? = some R0) (hL' : L' k0 = true) (hLL : ∀ k, k ≠ k0 → L' k = L k)
    (hlater : ∀ k R, k0 < k → rs[k]? = some R → L k = true → ∀ l, wkey R0 l = true → wkey R l = false) : over L' 0 rs S = upd (over L 0 rs S) R0.writes := by
  funext l
  cases hw : wkey R0 l with
  | true =>
    refine over_last hw _ rs 0 k0 S h0 (by rw [Nat.zero_add]; exact hL') (fun k R hk hR hwr => ?_)
    rw [Nat.zero_add, hLL k (by omega)]
    cases hLk : L k with
    | false => rfl
    | true => rw [hlater k R hk hR hLk l hw] at hwr; simp at hwr
  | false =>
    rw [upd_not hw]
    refine over_congr rs 0 S S rfl (fun k R hR hwr => ?_)
    rw [Nat.zero_add]
    refine hLL k (fun hk => ?_)
    subst hk
    rw [h0] at hR
    simp only [Option.some.injEq] at hR
    subst hR
    rw [hw] at hwr
    simp at hwr
section
variable {T : Set} {C : Ctx} {ρ : Env} {ops : Array Oper}
theorem Lex.length {nt : Nat} {os : List Oper} {rs : List Rs} {S S' : Sm} (h : Lex T nt ops os rs S S') : rs.length = os.length := by
  induction h with
  | nil => rfl
  | cons _ _ ih => simp [ih]
theorem over_before : ∀ (rs : List Rs) (i m : Nat) (S : Sm), m ≤ i → over (fun j => decide (j < m)) i rs S = S := by
  intro rs
  induction rs with
  | nil => intro i m S _; rfl
  | cons R rs ih =>
    intro i m S h
    simp only [over]
    rw [if_neg (by simp; omega)]
    exact ih (i + 1) m S (by omega)
theorem Lex.at_ {nt : Nat} {os : List Oper} {rs : List Rs} {S S' : Sm} (h : Lex T nt ops os rs S S') : ∀ (i k : Nat) (o : Oper), os[k]? = some o → ∃ R s n, rs[k]? = some R ∧ resolve T nt ops s n o (over (fun j => decide (j < i + k)) i rs S) = some R := by
  induction h with
  | nil S => intro i k o h; simp at h
  | cons h t ih =>
    rename_i o r R rs S S' s n
    intro i k o' ho
    cases k with
    | zero =>
      simp at ho
      subst ho
      refine ⟨R, s, n, rfl, ?_⟩
      rw [over_before _ _ _ _ (by omega)]
      exact h
    | succ k =>
      obtain ⟨R', s', n', h1, h2⟩ := ih (i + 1) k o' (by simpa using ho)
      refine ⟨R', s', n', by simpa using h1, ?_⟩
      simp only [over]
      rw [if_pos (by simp)]
      rwa [show i + 1 + k = i + (k + 1) by omega] at h2
theorem Lex.end_ {nt : Nat} {os : List Oper} {rs : List Rs} {S S' : Sm} (h : Lex T nt ops os rs S S') : ∀ (i : Nat) (L : Nat → Bool), (∀ k, k < rs.length → L (i + k) = true) → over L i rs S = S' := by
  induction h with
  | nil S => intro i L _; rfl
  | cons h t ih =>
    rename_i o r R rs S S' s n
    intro i L hL
    simp only [over]
    have h0 := hL 0 (by simp)
    rw [Nat.add_zero] at h0
    rw [if_pos h0]
    refine ih (i + 1) L (fun k hk => ?_)
    have := hL (k + 1) (by simp; omega)
    rwa [show i + (k + 1) = i + 1 + k by omega] at this

/-! ### Which operation must come before which -/
def maskOf (acc : List Nat) (es : List Edge) : Nat :=
  match es with
  | [] => 0
  | e :: r => if Region.binds .any e then Nat.lor (Nat.lor (2 ^ e.on) (acc.getD e.on 0)) (maskOf acc r) else maskOf acc r
def masks : List Oper → List Nat → List Nat
  | [], acc => acc
  | o :: r, acc => masks r (acc ++ [maskOf acc o.after.toList])
def edgesOk : List Oper → Nat → Bool
  | [], _ => true
  | o :: r, i => (o.after.toList.all fun e => !Region.binds .any e || decide (e.on < i)) && edgesOk r (i + 1)
theorem maskOf_ok {acc : List Nat} {k : Nat} : ∀ {es : List Edge}, (maskOf acc es).testBit k = true → ∃ e, e ∈ es ∧ Region.binds .any e = true ∧ (k = e.on ∨ (acc.getD e.on 0).testBit k = true) := by
  intro es
  induction es with
  | nil => intro h; simp [maskOf] at h
  | cons e r ih =>
    intro h
    simp only [maskOf] at h
    split at h
    · rename_i hb
      have h' : (((2 ^ e.on) ||| (acc.getD e.on 0)) ||| (maskOf acc r)).testBit k = true := h
      rw [Nat.testBit_or, Nat.testBit_or, Bool.or_eq_true, Bool.or_eq_true] at h'
      rcases h' with (h1 | h1) | h1
      · refine ⟨e, by simp, hb, .inl ?_⟩
        rw [Nat.testBit_two_pow] at h1
        exact (of_decide_eq_true h1).symm
      · exact ⟨e, by simp, hb, .inr h1⟩
      · obtain ⟨e', h2, h3⟩ := ih h1
        exact ⟨e', List.mem_cons_of_mem _ h2, h3⟩
    · obtain ⟨e', h2, h3⟩ := ih h
      exact ⟨e', List.mem_cons_of_mem _ h2, h3⟩
theorem masks_old : ∀ (os : List Oper) (acc : List Nat) (i : Nat), i < acc.length → (masks os acc)[i]? = acc[i]? := by
  intro os
  induction os with
  | nil => intro acc i _; rfl
  | cons o r ih =>
    intro acc i h
    simp only [masks]
    rw [ih _ i (by simp; omega), List.getElem?_append_left h]
theorem masks_at : ∀ (os : List Oper) (acc : List Nat) (k : Nat) (o : Oper), os[k]? = some o → edgesOk os acc.length = true → ∀ b, ((masks os acc).getD (acc.length + k) 0).testBit b = true →
    ∃ e, e ∈ o.after.toList ∧ Region.binds .any e = true ∧ e.on < acc.length + k ∧ (b = e.on ∨ ((masks os acc).getD e.on 0).testBit b = true) := by
  intro os
  induction os with
  | nil => intro acc k o h; simp at h
  | cons o r ih =>
    intro acc k o' ho he b hb
    simp only [edgesOk, Bool.and_eq_true, List.all_eq_true, Bool.or_eq_true, Bool.not_eq_true', decide_eq_true_eq] at he
    simp only [masks] at hb ⊢
    cases k with
    | zero =>
      simp at ho
      subst ho
      rw [Nat.add_zero, List.getD_eq_getElem?_getD, masks_old r _ acc.length (by simp)] at hb
      simp only [List.getElem?_append_right (Nat.le_refl _), Nat.sub_self, List.getElem?_cons_zero, Option.getD_some] at hb
      obtain ⟨e, h1, h2, h3⟩ := maskOf_ok hb
      have hlt : e.on < acc.length := by
        rcases he.1 e h1 with h | h
        · rw [h2] at h; simp at h
        · exact h
      refine ⟨e, h1, h2, by omega, ?_⟩
      rcases h3 with h3 | h3
      · exact .inl h3
      · refine .inr ?_
        rw [List.getD_eq_getElem?_getD, masks_old r _ e.on (by simp; omega), List.getElem?_append_left hlt, ← List.getD_eq_getElem?_getD]
        exact h3
    | succ k =>
      have hl : (acc ++ [maskOf acc o.after.toList]).length = acc.length + 1 := by simp
      have := ih (acc ++ [maskOf acc o.after.toList]) k o' (by simpa using ho) (by rw [hl]; exact he.2) b (by rw [hl]; rwa [show acc.length + 1 + k = acc.length + (k + 1) by omega])
      rw [hl] at this
      rwa [show acc.length + 1 + k = acc.length + (k + 1) by omega] at this
def memLoc (l : Loc) : List Loc → Bool
  | [] => false
  | k :: r => (decide (k.1 = l.1) && decide (k.2 = l.2)) || memLoc l r
theorem memLoc_ok {l : Loc} : ∀ {r : List Loc}, l ∈ r → memLoc l r = true := by
  intro r
  induction r with
  | nil => intro h; simp at h
  | cons k r ih =>
    intro h
    rcases List.mem_cons.1 h with rfl | h
    · simp [memLoc]
    · simp [memLoc, ih h]
def keyLoc (l : Loc) : St → Bool
  | [] => false
  | (k, _) :: r => (decide (k.1 = l.1) && decide (k.2 = l.2)) || keyLoc l r
theorem keyLoc_eq (l : Loc) : ∀ (r : St), keyLoc l r = (look r l).isSome := by
  intro r
  induction r with
  | nil => rfl
  | cons k r ih =>
    obtain ⟨k, x⟩ := k
    simp only [keyLoc, look, ih]
    by_cases h : k.1 = l.1 ∧ k.2 = l.2
    · rw [if_pos h]; simp [h.1, h.2]
    · rw [if_neg h]
      have : (decide (k.1 = l.1) && decide (k.2 = l.2)) = false := by
        rw [Bool.and_eq_false_iff]
        by_cases h1 : k.1 = l.1
        · exact .inr (by simp; exact fun h2 => h ⟨h1, h2⟩)
        · exact .inl (by simp [h1])
      simp [this]
/-- Do two operations touch one place that one of them writes? -/
def clash (A B : Rs) : Bool := (A.writes.any fun x => keyLoc x.1 B.writes || memLoc x.1 B.reads) || (A.reads.any fun l => keyLoc l B.writes)
theorem clash_ww {A B : Rs} {l : Loc} (h1 : wkey A l = true) (h2 : wkey B l = true) : clash A B = true := by
  obtain ⟨x, hx⟩ := Option.isSome_iff_exists.1 h1
  have := look_mem hx
  simp only [clash, Bool.or_eq_true, List.any_eq_true]
  refine .inl ⟨(l, x), this, .inl ?_⟩
  rw [keyLoc_eq]; exact h2
theorem clash_wr {A B : Rs} {l : Loc} (h1 : wkey A l = true) (h2 : l ∈ B.reads) : clash A B = true := by
  obtain ⟨x, hx⟩ := Option.isSome_iff_exists.1 h1
  have := look_mem hx
  simp only [clash, Bool.or_eq_true, List.any_eq_true]
  exact .inl ⟨(l, x), this, .inr (memLoc_ok h2)⟩
theorem clash_rw {A B : Rs} {l : Loc} (h1 : l ∈ A.reads) (h2 : wkey B l = true) : clash A B = true := by
  simp only [clash, Bool.or_eq_true, List.any_eq_true]
  refine .inr ⟨l, h1, ?_⟩
  rw [keyLoc_eq]; exact h2
def orderRow (A : Rs) (i : Nat) : List Rs → List Nat → Bool
  | [], _ => true
  | B :: rs, m :: ms => (!clash A B || Nat.testBit m i) && orderRow A i rs ms
  | _ :: _, [] => false
def orderOk : List Rs → Nat → List Nat → Bool
  | [], _, _ => true
  | A :: rs, i, ms => orderRow A i rs (ms.drop (i + 1)) && orderOk rs (i + 1) ms
theorem orderRow_ok {A : Rs} {i : Nat} : ∀ {rs : List Rs} {ms : List Nat}, orderRow A i rs ms = true → ∀ (k : Nat) (B : Rs), rs[k]? = some B → clash A B = true → (ms.getD k 0).testBit i = true := by
  intro rs
  induction rs with
  | nil => intro ms _ k B h; simp at h
  | cons B rs ih =>
    intro ms h k B' hB hc
    cases ms with
    | nil => simp [orderRow] at h
    | cons m ms =>
      simp only [orderRow, Bool.and_eq_true, Bool.or_eq_true, Bool.not_eq_true'] at h
      cases k with
      | zero =>
        simp at hB
        subst hB
        rcases h.1 with h1 | h1
        · rw [hc] at h1; simp at h1
        · simpa using h1
      | succ k => simpa using ih h.2 k B' (by simpa using hB) hc
theorem orderOk_ok : ∀ {rs : List Rs} {i : Nat} {ms : List Nat}, orderOk rs i ms = true → ∀ (j k : Nat) (A B : Rs), j < k → rs[j]? = some A → rs[k]? = some B → clash A B = true → (ms.getD (i + k) 0).testBit (i + j) = true := by
  intro rs
  induction rs with
  | nil => intro i ms _ j k A B _ h; simp at h
  | cons R rs ih =>
    intro i ms h j k A B hjk hA hB hc
    simp only [orderOk, Bool.and_eq_true] at h
    cases k with
    | zero => omega
    | succ k =>
      cases j with
      | zero =>
        simp at hA
        subst hA
        have := orderRow_ok h.1 k B (by simpa using hB) hc
        rw [List.getD_eq_getElem?_getD, List.getElem?_drop, ← List.getD_eq_getElem?_getD] at this
        rwa [show i + 1 + k = i + (k + 1) by omega] at this
      | succ j =>
        have := ih h.2 j k A B (by omega) (by simpa using hA) (by simpa using hB) hc
        rwa [show i + 1 + k = i + (k + 1) by omega, show i + 1 + j = i + (j + 1) by omega] at this

/-! ### Any order -/
def isIn (listed : Array Bool) (i : Nat) : Bool := listed.getD i false
theorem isIn_set {listed : Array Bool} {i : Nat} (hi : i < listed.size) (k : Nat) : isIn (listed.setIfInBounds i true) k = (decide (k = i) || isIn listed k) := by
  unfold isIn
  rw [Array.getD_eq_getD_getElem?, Array.getD_eq_getD_getElem?]
  by_cases h : k = i
  · subst h; simp [hi]
  · rw [Array.getElem?_setIfInBounds_ne (by omega)]
    simp [h]
theorem mem_ready {listed : Array Bool} {i : Nat} (h : i ∈ Region.ready .any ops listed) : i < ops.size ∧ listed.getD i true = false ∧ ∀ o, ops[i]? = some o → ∀ e, e ∈ o.after.toList → Region.binds .any e = true → isIn listed e.on = true := by
  unfold Region.ready at h
  simp only [List.mem_filter, List.mem_range, Bool.and_eq_true, Bool.not_eq_true'] at h
  obtain ⟨h1, h2, h3⟩ := h
  refine ⟨h1, h2, fun o ho e he hb => ?_⟩
  rw [ho] at h3
  simp only [Option.map_some, Option.getD_some, Array.all_eq_true_iff_forall_mem, Bool.or_eq_true, Bool.not_eq_true'] at h3
  rcases h3 e (by simpa using he) with h | h
  · rw [hb] at h; simp at h
  · exact h
theorem in_ready {listed : Array Bool} {i : Nat} {o : Oper} (ho : ops[i]? = some o) (hl : listed.getD i true = false) (he : ∀ e, e ∈ o.after.toList → Region.binds .any e = true → isIn listed e.on = true) : i ∈ Region.ready .any ops listed := by
  have hi : i < ops.size := by
    rcases Nat.lt_or_ge i ops.size with h | h
    · exact h
    · rw [Array.getElem?_eq_none h] at ho; simp at ho
  unfold Region.ready
  simp only [List.mem_filter, List.mem_range, Bool.and_eq_true, Bool.not_eq_true']
  refine ⟨hi, hl, ?_⟩
  rw [ho]
  simp only [Option.map_some, Option.getD_some, Array.all_eq_true_iff_forall_mem, Bool.or_eq_true, Bool.not_eq_true']
  intro e hm
  cases hb : Region.binds .any e with
  | false => exact .inl rfl
  | true => exact .inr (he e (by simpa using hm) hb)
theorem edgesOk_ok : ∀ {os : List Oper} {i : Nat}, edgesOk os i = true → ∀ (k : Nat) (o : Oper), os[k]? = some o → ∀ e, e ∈ o.after.toList → Region.binds .any e = true → e.on < i + k := by
  intro os
  induction os with
  | nil => intro i _ k o h; simp at h
  | cons o r ih =>
    intro i h k o' ho e he hb
    simp only [edgesOk, Bool.and_eq_true, List.all_eq_true, Bool.or_eq_true, Bool.not_eq_true', decide_eq_true_eq] at h
    cases k with
    | zero =>
      simp at ho
      subst ho
      rcases h.1 e he with h1 | h1
      · rw [hb] at h1; simp at h1
      · omega
    | succ k =>
      have := ih h.2 k o' (by simpa using ho) e he hb
      omega
theorem ready_nil {listed : Array Bool} (hs : listed.size = ops.size) (he : edgesOk ops.toList 0 = true) (h : Region.ready .any ops listed = []) : ∀ i, i < ops.size → isIn listed i = true := by
  intro i
  induction i using Nat.strongRecOn with
  | _ i ih =>
    intro hi
    cases hl : isIn listed i with
    | true => rfl
    | false =>
      have ho : ops[i]? = some ops[i] := Array.getElem?_eq_getElem hi
      have hmem : i ∈ Region.ready .any ops listed := in_ready ho (by
        unfold isIn at hl
        rw [Array.getD_eq_getD_getElem?, Array.getElem?_eq_getElem (by omega)] at hl ⊢
        exact hl) (fun e hm hb => by
          have hlt := edgesOk_ok he i ops[i] (by simp) e hm hb
          exact ih e.on (by omega) (by omega))
      rw [h] at hmem
      simp at hmem
theorem any_order {Φ : Nat → List LV → List LV} {Pr : Nat → List LV → Prop} (hcon : ∀ sg, sg ∈ T.sigs → ConOk T.P Φ Pr sg) (hnp : C.np = T.np ∧ C.ro = T.ro) {Q : Exit → Act → World → Prop} {rs : List Rs} {S S' : Sm}
    (hlex : Lex T C.nt ops ops.toList rs S S') (he : edgesOk ops.toList 0 = true) (ho : orderOk rs 0 (masks ops.toList []) = true)
    (hall : ∀ R, R ∈ rs → (∀ e, e ∈ R.needs → (e.den ρ).B = true) ∧ BindsOk Φ Pr ρ R.bind) (hQ : ∀ p a w, Mt C ρ p S' a w → Q .normal a w) :
    ∀ (fuel : Nat) (listed : Array Bool) (p : Nat → Nat) (a : Act) (w : World), listed.size = ops.size → listed.toList.count false ≤ fuel →
      (∀ j o, ops[j]? = some o → isIn listed j = true → ∀ e, e ∈ o.after.toList → Region.binds .any e = true → isIn listed e.on = true) →
      Mt C ρ p (over (isIn listed) 0 rs S) a w → wpAny T.P .any ops Q fuel listed a w := by
  have hlen := hlex.length
  simp only [Array.length_toList] at hlen
  have fin : ∀ (listed : Array Bool) (p : Nat → Nat) (a : Act) (w : World), listed.size = ops.size → Mt C ρ p (over (isIn listed) 0 rs S) a w → Region.ready .any ops listed = [] → Q .normal a w := by
    intro listed p a w hs hM hr
    have := ready_nil hs he hr
    rw [hlex.end_ 0 (isIn listed) (fun k hk => by rw [Nat.zero_add]; exact this k (by omega))] at hM
    exact hQ p a w hM
  intro fuel
  induction fuel with
  | zero =>
    intro listed p a w hs hc hdc hM
    have hr : Region.ready .any ops listed = [] := by
      cases hr : Region.ready .any ops listed with
      | nil => rfl
      | cons i r =>
        have := mem_ready (ops := ops) (listed := listed) (i := i) (by rw [hr]; simp)
        have hi : i < listed.size := by omega
        have hf : listed.toList[i]'(by rw [Array.length_toList]; exact hi) = false := by
          have h2 := this.2.1
          rw [Array.getD_eq_getD_getElem?, Array.getElem?_eq_getElem hi] at h2
          simpa using h2
        have : 0 < listed.toList.count false := by
          rw [List.count_pos_iff]
          rw [← hf]
          exact List.getElem_mem _
        omega
    exact ⟨hr, fin listed p a w hs hM hr⟩
  | succ fuel ih =>
    intro listed p a w hs hc hdc hM
    refine ⟨fin listed p a w hs hM, fun i hi => ?_⟩
    obtain ⟨h1, h2, h3⟩ := mem_ready hi
    have hil : i < listed.size := by omega
    have hnot : isIn listed i = false := by
      unfold isIn
      rw [Array.getD_eq_getD_getElem?, Array.getElem?_eq_getElem hil] at h2 ⊢
      exact h2
    have hop : ops[i]? = some ops[i] := Array.getElem?_eq_getElem h1
    obtain ⟨R, s, n, hR, hres⟩ := hlex.at_ 0 i ops[i] (by simp)
    rw [Nat.zero_add] at hres
    -- what must come before, transitively, is in
    have closed : ∀ (m j : Nat), j ≤ m → j < ops.size → (∀ o, ops[j]? = some o → ∀ e, e ∈ o.after.toList → Region.binds .any e = true → isIn listed e.on = true) → ∀ b, ((masks ops.toList []).getD j 0).testBit b = true → isIn listed b = true := by
      intro m
      induction m with
      | zero =>
        intro j hj hjo hedges b hb
        have hoj : ops[j]? = some ops[j] := Array.getElem?_eq_getElem hjo
        obtain ⟨e, e1, e2, e3, _⟩ := masks_at ops.toList [] j ops[j] (by simp) he b (by simpa using hb)
        simp at e3
        omega
      | succ m ihm =>
        intro j hj hjo hedges b hb
        have hoj : ops[j]? = some ops[j] := Array.getElem?_eq_getElem hjo
        obtain ⟨e, e1, e2, e3, e4⟩ := masks_at ops.toList [] j ops[j] (by simp) he b (by simpa using hb)
        simp only [List.length_nil, Nat.zero_add] at e3
        have hin := hedges ops[j] hoj e e1 e2
        rcases e4 with rfl | e4
        · exact hin
        · exact ihm e.on (by omega) (by omega) (fun o ho e' he' hb' => hdc e.on o ho hin e' he' hb') b e4
    have before_i : ∀ b, ((masks ops.toList []).getD i 0).testBit b = true → isIn listed b = true := closed i i (Nat.le_refl _) h1 h3
    have not_before : ∀ j, isIn listed j = true → ((masks ops.toList []).getD j 0).testBit i = false := by
      intro j hj
      cases hb : ((masks ops.toList []).getD j 0).testBit i with
      | false => rfl
      | true =>
        have hjlt : j < ops.size := by
          rcases Nat.lt_or_ge j listed.size with h | h
          · omega
          · unfold isIn at hj; rw [Array.getD_eq_getD_getElem?, Array.getElem?_eq_none h] at hj; simp at hj
        have := closed j j (Nat.le_refl _) hjlt (fun o ho e he' hb' => hdc j o ho hj e he' hb') i hb
        rw [hnot] at this
        simp at this
    have hreads : ∀ l, l ∈ R.reads → over (isIn listed) 0 rs S l = over (fun j => decide (j < i)) 0 rs S l := by
      intro l hl
      refine over_congr rs 0 S S rfl (fun k R' hk hw => ?_)
      rw [Nat.zero_add]
      rcases Nat.lt_trichotomy k i with hki | hki | hki
      · have := orderOk_ok ho k i R' R hki hk hR (clash_wr hw hl)
        rw [Nat.zero_add, Nat.zero_add] at this
        rw [before_i k this]
        simp [hki]
      · subst hki
        rw [hnot]
        simp
      · have := orderOk_ok ho i k R R' hki hR hk (clash_rw hl hw)
        rw [Nat.zero_add, Nat.zero_add] at this
        cases hin : isIn listed k with
        | false => simp; omega
        | true => rw [not_before k hin] at this; simp at this
    have hres' := resolve_frame hres hreads
    have hRm : R ∈ rs := List.mem_of_getElem? hR
    unfold wpOp
    rw [hop]
    simp only
    have hstep := resolve_ok (T := T) (C := C) (Φ := Φ) (Pr := Pr) hcon hnp hres' hM (hall R hRm).1 (hall R hRm).2 (K := wpAny T.P .any ops Q fuel (listed.setIfInBounds i true)) (Q := Q) (fun p' v w' hM' => by
      refine ih (listed.setIfInBounds i true) p' _ w' (by simp; exact hs) ?_ ?_ ?_
      · have hcnt := List.count_set (a := true) (b := false) (l := listed.toList) (i := i) (by rw [Array.length_toList]; exact hil)
        have hf : listed.toList[i]'(by rw [Array.length_toList]; exact hil) = false := by
          rw [Array.getD_eq_getD_getElem?, Array.getElem?_eq_getElem hil] at h2
          simpa using h2
        rw [hf] at hcnt
        have hpos : 0 < listed.toList.count false := by
          rw [List.count_pos_iff]
          rw [← hf]
          exact List.getElem_mem _
        rw [Array.toList_setIfInBounds, hcnt, show (if (false == false) = true then 1 else 0) = 1 from rfl, show (if (true == false) = true then 1 else 0) = 0 from rfl]
        omega
      · intro j o hjo hj e hem hb
        rw [isIn_set hil] at hj ⊢
        simp only [Bool.or_eq_true, decide_eq_true_eq] at hj ⊢
        rcases hj with rfl | hj
        · exact .inr (h3 o hjo e hem hb)
        · exact .inr (hdc j o hjo hj e hem hb)
      · rw [over_insert (L := isIn listed) hR (by rw [isIn_set hil]; simp) (fun k hk => by rw [isIn_set hil]; simp [hk]) (fun k R' hk hR' hLk l hw => by
          cases hw' : wkey R' l with
          | false => rfl
          | true =>
            have := orderOk_ok ho i k R R' hk hR hR' (clash_ww hw hw')
            rw [Nat.zero_add, Nat.zero_add, not_before k hLk] at this
            simp at this)]
        exact hM')
    split
    · rename_i hwt
      rw [if_pos hwt] at hstep
      exact .inl hstep
    · rename_i hwt
      rw [if_neg hwt] at hstep
      exact hstep
end
end Go.Proofs.Ythhnnfmfeofknaa.Sy
