/-
  A symbolic evaluator for the model's code, part H: slices that are written out, and calls by contract.
-/
import Derived.Test.YthhnnfmfeofknaaSyG
namespace Go.Proofs.Ythhnnfmfeofknaa.Sy
open Go Go.RowKit
set_option linter.unusedSimpArgs false
set_option linter.unusedVariables false

/-! ### A slice written out -/
def rowE : List BC → List CV → Option E
  | [], [] => some .rnil
  | c :: cs, .ex (.base c') e :: xs => if c = c' then (rowE cs xs).map fun r => .op2 .rcons e r else none
  | _, _ => none
def rowsE (cols : List BC) : Nat → List CV → Option E
  | 0, [] => some .lnil
  | 0, _ :: _ => none
  | n + 1, xs => (rowE cols (xs.take cols.length)).bind fun r => (rowsE cols n (xs.drop cols.length)).map fun l => .op2 .cat r l
def repeatCV (zs : List CV) : Nat → List CV
  | 0 => []
  | n + 1 => zs ++ repeatCV zs n
def mBuildSlice (P : Program) (t : TypeId) (len : Nat) (idx : List Nat) (xs : List V2) : Option V2 :=
  match P.underlying t with
  | some (.slice e) => (match P.info? e, zeroCVs P e, (colsOf P 12 e).bind asBase, ones xs with
    | some inf, some zs, some cols, some ys =>
      if zs.length = inf.size ∧ cols.length = inf.size ∧ 0 < inf.size ∧ len * inf.size ≤ 65536 then
        (fillS (fun i => some (i * inf.size, inf.size)) (repeatCV zs len) (idx.zip ys)).bind fun flat => (rowsE cols len flat).map fun l => .one (.cell (if len = 0 then .tsl cols l else .ex (.sl cols) l))
      else none
    | _, _, _, _ => none)
  | _ => none

section
variable {P : Program} {C : Ctx} {ρ : Env} {β : Blk} {p : Nat → Nat} {S : Sm} {a : Act} {w : World}

theorem rowE_ok : ∀ {cols : List BC} {xs : List CV} {r : E} {us : List Value}, rowE cols xs = some r → All2 (CV.rep ρ β w) xs us →
    ∃ row, (r.den ρ).L = [row] ∧ row.length = cols.length ∧ us.length = cols.length ∧ ∀ (j : Nat) (x : LV) (c : BC), row[j]? = some x → cols[j]? = some c → ∃ u, us[j]? = some u ∧ c.rep x u := by
  intro cols
  induction cols with
  | nil =>
    intro xs r us h hx
    cases xs with
    | nil => simp only [rowE, Option.some.injEq] at h; subst h; cases hx; exact ⟨[], rfl, rfl, rfl, by simp⟩
    | cons _ _ => simp [rowE] at h
  | cons c cols ih =>
    intro xs r us h hx
    cases hx with
    | nil => simp [rowE] at h
    | cons h1 h2 =>
      rename_i x u xs us
      cases x with
      | ex c' e =>
        cases c' with
        | base c' =>
          simp only [rowE] at h
          split at h
          · rename_i hc
            subst hc
            simp only [Option.map_eq_some_iff] at h
            obtain ⟨r', hr', rfl⟩ := h
            obtain ⟨row, e1, e2, e3, e4⟩ := ih hr' h2
            refine ⟨e.den ρ :: row, by simp [E.den, O2.ev, e1], by simp [e2], by simp [e3], ?_⟩
            intro j x c hj hcj
            cases j with
            | zero => simp at hj hcj; subst hj hcj; exact ⟨u, rfl, h1⟩
            | succ j => simpa using e4 j x c (by simpa using hj) (by simpa using hcj)
          · simp at h
        | sl _ => simp [rowE] at h
      | _ => simp [rowE] at h
theorem rowsE_ok {cols : List BC} : ∀ {n : Nat} {xs : List CV} {l : E} {us : List Value}, rowsE cols n xs = some l → All2 (CV.rep ρ β w) xs us →
    (l.den ρ).L.length = n ∧ us.length = n * cols.length ∧ (∀ r, r ∈ (l.den ρ).L → r.length = cols.length) ∧
    ∀ (i j : Nat) (r : List LV) (x : LV) (c : BC), (l.den ρ).L[i]? = some r → r[j]? = some x → cols[j]? = some c → ∃ u, us[i * cols.length + j]? = some u ∧ c.rep x u := by
  intro n
  induction n with
  | zero =>
    intro xs l us h hx
    cases xs with
    | nil => simp only [rowsE, Option.some.injEq] at h; subst h; cases hx; exact ⟨rfl, by simp, by simp [E.den], by simp [E.den]⟩
    | cons _ _ => simp [rowsE] at h
  | succ n ih =>
    intro xs l us h hx
    simp only [rowsE, Option.bind_eq_some_iff, Option.map_eq_some_iff] at h
    obtain ⟨r, hr, l', hl', rfl⟩ := h
    obtain ⟨row, e1, e2, e3, e4⟩ := rowE_ok hr (hx.take _)
    obtain ⟨f1, f2, f3, f4⟩ := ih hl' (hx.drop _)
    simp only [List.length_take] at e3
    simp only [List.length_drop] at f2
    have hlen : us.length = (n + 1) * cols.length := by rw [Nat.add_mul]; omega
    have hL : (E.den ρ (.op2 .cat r l')).L = row :: (l'.den ρ).L := by simp [E.den, O2.ev, e1]
    rw [hL]
    refine ⟨by simp [f1], hlen, ?_, ?_⟩
    · intro q hq
      rcases List.mem_cons.1 hq with rfl | hq
      · exact e2
      · exact f3 q hq
    · intro i j q x c hi hj hc
      have hjlt : j < cols.length := by
        rcases Nat.lt_or_ge j cols.length with h | h
        · exact h
        · rw [List.getElem?_eq_none h] at hc; simp at hc
      cases i with
      | zero =>
        simp only [List.getElem?_cons_zero, Option.some.injEq] at hi
        subst hi
        obtain ⟨u, hu, hr⟩ := e4 j x c hj hc
        refine ⟨u, ?_, hr⟩
        rw [List.getElem?_take, if_pos hjlt] at hu
        simpa using hu
      | succ i =>
        obtain ⟨u, hu, hr⟩ := f4 i j q x c (by simpa using hi) hj hc
        refine ⟨u, ?_, hr⟩
        rw [List.getElem?_drop] at hu
        rw [← hu]
        congr 1
        rw [Nat.add_mul]
        omega
theorem repeat_ok {zs : List CV} {zv : List Value} (h : All2 (CV.rep ρ β w) zs zv) (_hz : 0 < zv.length) : ∀ n, All2 (CV.rep ρ β w) (repeatCV zs n) ((List.range (n * zv.length)).map fun k => zv.toArray[k % zv.length]!) := by
  intro n
  induction n with
  | zero => simpa [repeatCV] using All2.nil
  | succ n ih =>
    have app : ∀ {xs ys : List CV} {vs us : List Value}, All2 (CV.rep ρ β w) xs vs → All2 (CV.rep ρ β w) ys us → All2 (CV.rep ρ β w) (xs ++ ys) (vs ++ us) := by
      intro xs ys vs us h1 h2
      induction h1 with
      | nil => exact h2
      | cons h _ ih => exact .cons h ih
    have e : (List.range ((n + 1) * zv.length)).map (fun k => zv.toArray[k % zv.length]!) = zv ++ (List.range (n * zv.length)).map (fun k => zv.toArray[k % zv.length]!) := by
      apply List.ext_getElem?
      intro k
      rw [Nat.add_mul, Nat.one_mul, List.getElem?_append]
      simp only [List.getElem?_map]
      by_cases hk : k < zv.length
      · rw [if_pos hk, List.getElem?_range (by omega)]
        simp [Nat.mod_eq_of_lt hk, hk]
      · rw [if_neg hk]
        by_cases hk2 : k < n * zv.length + zv.length
        · rw [List.getElem?_range hk2, List.getElem?_range (by omega)]
          simp only [Option.map_some]
          congr 2
          rw [Nat.mod_eq_sub_mod (by omega)]
        · rw [List.getElem?_eq_none (by simp; omega), List.getElem?_eq_none (by simp; omega)]
    simp only [repeatCV]
    rw [e]
    exact app h ih
theorem mBuildSlice_ok (hM : Mt C ρ p S a w) {t : TypeId} {len : Nat} {idx : List Nat} {xs : List V2} {x : V2} (h : mBuildSlice P t len idx xs = some x) {vs : List Value} (hx : All2 (V2.rep ρ (blk C.av p S) w) xs vs) :
    ∃ v w', (Instr.buildSlice t len (idx.zip vs).toArray).run P w = .ok v w' ∧ Ext (blk C.av p S).trk w w' ∧ (∀ k, k < w.heap.size → w'.heap[k]? = w.heap[k]?) ∧ x.rep ρ (blk C.av p S) w' v := by
  unfold mBuildSlice at h
  split at h
  · rename_i e hu
    split at h
    · rename_i inf zs cols ys hinf hz hcols hy
      split at h
      · rename_i hc
        obtain ⟨hc1, hc2, hc3, hc4⟩ := hc
        simp only [Option.bind_eq_some_iff, Option.map_eq_some_iff] at h
        obtain ⟨flat, hflat, l, hl, rfl⟩ := h
        obtain ⟨zv, hzv, ⟨i, hi, hi2⟩, hzc⟩ := zeroCVs_ok (ρ := ρ) (β := blk C.av p S) (w := w) hz
        have hzl := hzc.length
        rw [hc1] at hzl
        simp only [Array.length_toList] at hzl
        have hparts : ∀ (idx : List Nat) (ys : List V1) (vs : List Value), All2 (V1.rep ρ (blk C.av p S) w) ys vs → All2 (fun (p' : Nat × V1) (v : Nat × Value) => p'.1 = v.1 ∧ p'.2.rep ρ (blk C.av p S) w v.2) (idx.zip ys) (idx.zip vs) := by
          intro idx
          induction idx with
          | nil => intro ys vs _; exact .nil
          | cons i idx ih =>
            intro ys vs h
            cases h with
            | nil => exact .nil
            | cons h1 h2 => exact .cons ⟨rfl, h1⟩ (ih _ _ h2)
        have hrep := repeat_ok hzc (by simp; omega) len
        have hbase : All2 (CV.rep ρ (blk C.av p S) w) (repeatCV zs len) ((Array.range (len * inf.size)).map (zv.cells[· % zv.cells.size]!)).toList := by
          have : ((Array.range (len * inf.size)).map (zv.cells[· % zv.cells.size]!)).toList = (List.range (len * zv.cells.toList.length)).map fun k => zv.cells.toList.toArray[k % zv.cells.toList.length]! := by
            simp [← hzl]
          rw [this]; exact hrep
        obtain ⟨cells, hf, ha⟩ := fillS_ok (hparts idx ys vs (ones_ok hy hx)) hflat hbase
        obtain ⟨g1, g2, g3, g4⟩ := rowsE_ok hl ha
        have hne : ¬ len * inf.size > 2 ^ 24 := by omega
        refine ⟨.slice (some ⟨w.heap.size, 0, none⟩) len len, w.alloc (.cells cells e), ?_, ⟨rfl, rfl, rfl, by simp, fun k hk _ => Below.heap_alloc _ _ _ hk⟩, fun k hk => Below.heap_alloc _ _ _ hk, ?_⟩
        · simp only [Instr.buildSlice, Sem.run_bind, run_underlying hu, Result.andThen_ok, sizeOf, typeInfo, run_program, hinf, Sem.run_pure, Sem.run_ite, if_neg hne]
          by_cases h0 : len * inf.size = 0
          · have hemp : ∀ f : Nat → Value, (Array.range (len * inf.size)).map f = #[] := by intro f; rw [h0, Array.range_zero']; simp
            rw [hemp] at hf
            simp only [if_pos h0]
            rw [hemp, hf]
            rfl
          · simp only [if_neg h0, hzv, Result.andThen_ok]
            rw [hf]
            rfl
        · have hrep' : SlRep (w.alloc (.cells cells e)) (blk C.av p S).avoid cols (l.den ρ).L (.slice (some ⟨w.heap.size, 0, none⟩) len len) := by
           refine ⟨some ⟨w.heap.size, 0, none⟩, len, by rw [g1], by omega, ?_, g3, fun hne' => ⟨w.heap.size, 0, rfl, by simp, ?_, ?_⟩⟩
           · rw [g1]
             have : len ≤ len * inf.size := Nat.le_mul_of_pos_right _ hc3
             omega
           · rintro (h1 | h1)
             · have := hM.avlt _ h1
               have := hM.grown
               omega
             · have := hM.trk_lt h1
               omega
           · intro i j r x c hri hrj hcj
             obtain ⟨u, hu1, hu2⟩ := g4 i j r x c hri hrj hcj
             refine ⟨u, ?_, hu2⟩
             rw [World.cell?_alloc_new, Nat.zero_add]
             simpa using hu1
          simp only [V2.rep, V1.rep]
          split
          · exact ⟨hrep', _, _, rfl⟩
          · exact hrep'
      · simp at h
    · simp at h
  · simp at h
end

/-! ### Contracts -/
inductive PSh where
  | col (c : Col)
  | agg (cs : List Col)
  | ptr (mt : Bool) (cs : List Col)
  | fn (f : Nat)
  deriving DecidableEq
inductive RSh where
  | col (c : Col)
  | agg (cs : List Col)
  deriving DecidableEq
structure Sig where
  key : Nat
  fid : Nat
  params : List PSh
  results : List RSh
def CRep (w : World) (Tr : Nat → Prop) : List Col → List LV → List Value → Prop
  | [], [], [] => True
  | c :: cs, l :: ls, u :: us => c.rep w Tr l u ∧ CRep w Tr cs ls us
  | _, _, _ => False
def CAt (w : World) (Tr : Nat → Prop) (b : Nat) : Nat → List Col → List LV → Prop
  | _, [], [] => True
  | j, c :: cs, l :: ls => (∃ u, w.cell? ⟨b, j, none⟩ = some u ∧ c.rep w Tr l u ∧ w.frozen? ⟨b, j, none⟩ = false) ∧ CAt w Tr b (j + 1) cs ls
  | _, _, _ => False
def PRep (w : World) (Tr : Nat → Prop) : List PSh → List LV → List Nat → List Value → Prop
  | [], ls, bs, vs => ls = [] ∧ bs = [] ∧ vs = []
  | .col c :: ps, ls, bs, vs => ∃ l ls' v vs', ls = l :: ls' ∧ vs = v :: vs' ∧ c.rep w Tr l v ∧ PRep w Tr ps ls' bs vs'
  | .agg cs :: ps, ls, bs, vs => ∃ l1 ls' us vs', ls = l1 ++ ls' ∧ vs = .agg us.toArray :: vs' ∧ CRep w Tr cs l1 us ∧ PRep w Tr ps ls' bs vs'
  | .ptr _ cs :: ps, ls, bs, vs => ∃ l1 ls' b bs' vs', ls = l1 ++ ls' ∧ bs = b :: bs' ∧ vs = .pointer (some ⟨b, 0, none⟩) :: vs' ∧ b < w.heap.size ∧ CAt w Tr b 0 cs l1 ∧ PRep w Tr ps ls' bs' vs'
  | .fn f :: ps, ls, bs, vs => ∃ vs', vs = .func (.func f) #[] #[] :: vs' ∧ PRep w Tr ps ls bs vs'
def FRep (w : World) (Tr : Nat → Prop) (f : Nat → LV) : Nat → List Col → List Value → Prop
  | _, [], us => us = []
  | n, c :: cs, us => ∃ u us', us = u :: us' ∧ c.rep w Tr (f n) u ∧ FRep w Tr f (n + 1) cs us'
def RRep (w : World) (Tr : Nat → Prop) (f : Nat → LV) : Nat → List RSh → List Value → Prop
  | _, [], us => us = []
  | n, .col c :: rs, us => ∃ u us', us = u :: us' ∧ c.rep w Tr (f n) u ∧ RRep w Tr f (n + 1) rs us'
  | n, .agg cs :: rs, us => ∃ vs us', us = .agg vs.toArray :: us' ∧ FRep w Tr f n cs vs ∧ RRep w Tr f (n + cs.length) rs us'
def RSh.len : RSh → Nat
  | .col _ => 1
  | .agg cs => cs.length
def resLen : List RSh → Nat
  | [] => 0
  | r :: rs => r.len + resLen rs
def FAt (w : World) (Tr : Nat → Prop) (f : Nat → LV) (b : Nat) : Nat → Nat → List Col → Prop
  | _, _, [] => True
  | n, j, c :: cs => (∃ u, w.cell? ⟨b, j, none⟩ = some u ∧ c.rep w Tr (f n) u ∧ w.frozen? ⟨b, j, none⟩ = false) ∧ FAt w Tr f b (n + 1) (j + 1) cs
def ORep (w : World) (Tr : Nat → Prop) (f : Nat → LV) : Nat → List PSh → List Nat → Prop
  | n, .ptr true cs :: ps, b :: bs => FAt w Tr f b n 0 cs ∧ ORep w Tr f (n + cs.length) ps bs
  | n, .ptr false _ :: ps, _ :: bs => ORep w Tr f n ps bs
  | _, .ptr _ _ :: _, [] => False
  | n, _ :: ps, bs => ORep w Tr f n ps bs
  | _, [], _ => True
def mutOf : List PSh → List Nat → List Nat
  | .ptr true _ :: ps, b :: bs => b :: mutOf ps bs
  | .ptr false _ :: ps, _ :: bs => mutOf ps bs
  | .ptr _ _ :: _, [] => []
  | _ :: ps, bs => mutOf ps bs
  | [], _ => []
def retV : List Value → Value
  | [v] => v
  | us => .tuple us.toArray
def outOf (ls : List LV) (i : Nat) : LV := ls.getD i (.i 0)
structure ConOk (P : Program) (Φ : Nat → List LV → List LV) (Pr : Nat → List LV → Prop) (sg : Sig) : Prop where
  enters : ∀ args w, (callFunc sg.fid args).run P w = .ok (.enter sg.fid args) w
  calls : ∀ (ls : List LV) (bs : List Nat) (vs : List Value) (w : World) (Tr : Nat → Prop), (∀ i, Tr i → i < w.heap.size) → (∀ b, b ∈ bs → Tr b) → bs.Nodup → PRep w Tr sg.params ls bs vs → Pr sg.key ls →
    Calls P sg.fid vs.toArray w fun e w' => ∃ us, e = .returned (retV us) ∧ Ext (fun i => i ∈ mutOf sg.params bs) w w' ∧ RRep w' Tr (outOf (Φ sg.key ls)) 0 sg.results us ∧ ORep w' Tr (outOf (Φ sg.key ls)) (resLen sg.results) sg.params bs

/-! ### The arguments of a call -/
def cellE (c : Col) (x : CV) : Option E :=
  match x with
  | .ex c' e => if c = c' then some e else none
  | .nils => (match c with
    | .sl _ => some .lnil
    | _ => none)
  | .tsl cols e => if c = .sl cols then some e else none
  | _ => none
def cellsE : List Col → List CV → Option (List E)
  | [], [] => some []
  | c :: cs, x :: xs => (cellE c x).bind fun e => (cellsE cs xs).map fun es => e :: es
  | _, _ => none
def takeArgs : List PSh → List V2 → List (Option V2) → Option (List E × List Nat)
  | [], [], _ => some ([], [])
  | .col c :: ps, .one (.cell x) :: xs, cells => (cellE c x).bind fun e => (takeArgs ps xs cells).map fun r => (e :: r.1, r.2)
  | .agg cs :: ps, .one (.agg ys) :: xs, cells => (cellsE cs ys).bind fun es => (takeArgs ps xs cells).map fun r => (es ++ r.1, r.2)
  | .ptr _ cs :: ps, .one (.cell (.ptr b 0)) :: xs, mk :: cells =>
    if marked cs.length mk && marked' cs.length mk then ((cvsOf (cells.take cs.length)).bind fun ys => cellsE cs ys).bind fun es => (takeArgs ps xs (cells.drop cs.length)).map fun r => (es ++ r.1, b :: r.2) else none
  | .fn f :: ps, .one (.cell (.fn f')) :: xs, cells => if f = f' then takeArgs ps xs cells else none
  | _, _, _ => none
where
  marked' (n : Nat) : Option V2 → Bool
    | some (.one (.cell (.fn m))) => decide (m ≤ n)
    | _ => false
def callReads : List PSh → List V2 → List Loc
  | .ptr _ cs :: ps, .one (.cell (.ptr b 0)) :: xs => ((1, b) :: locs b 0 cs.length) ++ callReads ps xs
  | _ :: ps, _ :: xs => callReads ps xs
  | _, _ => []
def shapeOk : List PSh → List V2 → Bool
  | [], [] => true
  | .fn f :: ps, .one (.cell (.fn f')) :: xs => decide (f = f') && shapeOk ps xs
  | .fn _ :: _, _ => false
  | _ :: ps, _ :: xs => shapeOk ps xs
  | _, _ => false
def exs (n : Nat) : List Col → List CV
  | [] => []
  | c :: cs => .ex c (.v n) :: exs (n + 1) cs
def resV : Nat → List RSh → List V1
  | _, [] => []
  | n, .col c :: rs => .cell (.ex c (.v n)) :: resV (n + 1) rs
  | n, .agg cs :: rs => .agg (exs n cs) :: resV (n + cs.length) rs
def outW : Nat → List PSh → List Nat → St
  | n, .ptr true cs :: ps, b :: bs => wsOf b 0 (exs n cs) ++ outW (n + cs.length) ps bs
  | n, .ptr false _ :: ps, _ :: bs => outW n ps bs
  | _, .ptr _ _ :: _, [] => []
  | n, _ :: ps, bs => outW n ps bs
  | _, [], _ => []
def outLen : List PSh → Nat
  | .ptr true cs :: ps => cs.length + outLen ps
  | _ :: ps => outLen ps
  | [] => 0
def nodup : List Nat → Bool
  | [] => true
  | b :: bs => !bs.contains b && nodup bs
def ret1 : List V1 → V2
  | [x] => .one x
  | xs => .tup xs
def mCall (ro : List Nat) (sg : Sig) (n : Nat) (xs : List V2) (cells : List (Option V2)) : Option Ac :=
  match takeArgs sg.params xs cells with
  | some (es, bs) => if nodup bs && (mutOf sg.params bs).all (fun b => !ro.contains b) then some ⟨ret1 (resV n sg.results), outW (n + resLen sg.results) sg.params bs, [], some (sg.key, es, n, resLen sg.results + outLen sg.params)⟩ else none
  | none => none
end Go.Proofs.Ythhnnfmfeofknaa.Sy
