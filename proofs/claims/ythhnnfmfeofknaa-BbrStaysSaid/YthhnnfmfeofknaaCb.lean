/-
  Contracts of math/bits.LeadingZeros64 and math/bits.Mul64 over this program: the kit's shelf laid in plain words by its own tool (first part), then turned into the evaluator's form.
-/
import Derived.Shelf.Small.Bits
import Derived.Shelf.Strconv.Itoa0
import Derived.Shelf.Bits.Mul64
import Derived.Test.YthhnnfmfeofknaaSyT
import Derived.Test.YthhnnfmfeofknaaProg
namespace Go.Proofs.Ythhnnfmfeofknaa.Sh
open Go Go.Shelf Go.Proofs
set_option linter.unusedSimpArgs false
set_option linter.unusedVariables false
def laid134_ren : Go.Shelf.Ren := ⟨fun | 134 => 125 | 129 => 131 | n => n, fun | 53 => 109 | 3 => 3 | 4 => 4 | 46 => 110 | 5 => 5 | 9 => 9 | n => n, fun | n => n⟩
theorem laid134 : Go.Proofs.Lays.n134 Try.prog laid134_ren := {
  mixed := by kernel_rfl
  f129 := Try.func131.trans (congrArg some (by kernel_rfl))
  f134 := Try.func125.trans (congrArg some (by kernel_rfl))
  t3 := Try.underlying3
  a3 := Try.isAgg3
  z3 := Try.sizeOf3
  v3 := Try.zeroValue3
  t4 := Try.underlying4
  a4 := Try.isAgg4
  z4 := Try.sizeOf4
  v4 := Try.zeroValue4
  t5 := Try.underlying5
  a5 := Try.isAgg5
  z5 := Try.sizeOf5
  v5 := Try.zeroValue5
  t9 := Try.underlying9
  a9 := Try.isAgg9
  z9 := Try.sizeOf9
  v9 := Try.zeroValue9
  t46 := Try.underlying110
  a46 := Try.isAgg110
  z46 := Try.sizeOf110
  v46 := Try.zeroValue110
  t53 := Try.underlying109
  a53 := Try.isAgg109
  z53 := Try.sizeOf109
  v53 := Try.zeroValue109 }
/-- bits.LeadingZeros64: "LeadingZeros64 returns the number of leading zero bits in x; the result is 64 for x == 0.": IT RETURNS '64 - Lib.bitLen x'; the world is as it was. ITS CALLEE bits.Len64 IS MET BY ITS OWN CONTRACT OFF THE SHELF (lay that first): entered in place it sends the kernel out of memory. (LAID: no walk: one application.) -/
theorem bits_LeadingZeros64 (x : Int) (w : World) (h0 : 0 ≤ x) (h1 : x ≤ 18446744073709551615) :
    Calls Try.prog 125 #[.int .u64 x] w fun e w' => e = .returned (.int .i64 (64 - (Lib.bitLen x.toNat : Int))) ∧ w' = w := Any.bits_LeadingZeros64 laid134 x w h0 h1
def laid129_ren : Go.Shelf.Ren := ⟨fun | 129 => 131 | n => n, fun | 53 => 109 | 3 => 3 | 4 => 4 | 46 => 110 | 5 => 5 | 9 => 9 | n => n, fun | n => n⟩
theorem laid129 : Go.Proofs.Lays.n129 Try.prog laid129_ren := {
  mixed := by kernel_rfl
  f129 := Try.func131.trans (congrArg some (by kernel_rfl))
  t3 := Try.underlying3
  a3 := Try.isAgg3
  z3 := Try.sizeOf3
  v3 := Try.zeroValue3
  t4 := Try.underlying4
  a4 := Try.isAgg4
  z4 := Try.sizeOf4
  v4 := Try.zeroValue4
  t5 := Try.underlying5
  a5 := Try.isAgg5
  z5 := Try.sizeOf5
  v5 := Try.zeroValue5
  t9 := Try.underlying9
  a9 := Try.isAgg9
  z9 := Try.sizeOf9
  v9 := Try.zeroValue9
  t46 := Try.underlying110
  a46 := Try.isAgg110
  z46 := Try.sizeOf110
  v46 := Try.zeroValue110
  t53 := Try.underlying109
  a53 := Try.isAgg109
  z53 := Try.sizeOf109
  v53 := Try.zeroValue109 }
/-- bits.Len64: "Len64 returns the minimum number of bits required to represent x; the result is 0 for x == 0.": IT RETURNS 'Lib.bitLen x'; the world is as it was. ('h0', 'h1': x is a uint64.) (LAID: no walk: one application.) -/
theorem bits_Len64 (x : Int) (w : World) (h0 : 0 ≤ x) (h1 : x ≤ 18446744073709551615) :
    Calls Try.prog 131 #[.int .u64 x] w fun e w' => e = .returned (.int .i64 (Lib.bitLen x.toNat)) ∧ w' = w := Any.bits_Len64 laid129 x w h0 h1
def laid264_ren : Go.Shelf.Ren := ⟨fun | 264 => 111 | n => n, fun | 53 => 109 | 46 => 110 | n => n, fun | n => n⟩
theorem laid264 : Go.Proofs.Lays.n264 Try.prog laid264_ren := {
  mixed := by kernel_rfl
  f264 := Try.func111.trans (congrArg some (by kernel_rfl))
  t46 := Try.underlying110
  a46 := Try.isAgg110
  z46 := Try.sizeOf110
  v46 := Try.zeroValue110
  t53 := Try.underlying109
  a53 := Try.isAgg109
  z53 := Try.sizeOf109
  v53 := Try.zeroValue109 }
open Go.RowKit Go.Lib in
theorem bits_Mul64 (x y : Nat) (hx : x < 18446744073709551616) (hy : y < 18446744073709551616) (w : World) :
    Calls Try.prog 111 #[.int .u64 x, .int .u64 y] w fun e w' => e = .returned (.tuple #[.int .u64 ((x * y / 18446744073709551616 : Nat) : Int), .int .u64 ((x * y % 18446744073709551616 : Nat) : Int)]) ∧ w' = w := Any.bits_Mul64 laid264 x y hx hy w
end Go.Proofs.Ythhnnfmfeofknaa.Sh
namespace Go.Proofs.Ythhnnfmfeofknaa.Sy
open Go Go.RowKit
theorem enters_ok {P : Program} {f : Nat} {fn : Func} (hf : P.funcs[f]? = some fn) (hn : (fn.name == "runtime.NumGoroutine") = false) (hb : fn.body.isSome = true) (args : Array Value) (w : World) : (callFunc f args).run P w = .ok (.enter f args) w := by
  obtain ⟨c, hbody⟩ := Option.isSome_iff_exists.1 hb
  simp only [callFunc, Sem.run_bind, run_program, Result.andThen_ok, hf, hn, hbody, Option.isNone_some, Bool.false_eq_true, if_false]
  rfl
def s125 : Sig := ⟨125, 125, [.col (.base (.int .u64))], [.col I64]⟩
def F125 (ls : List LV) : List LV := [.i (64 - (Lib.bitLen (outOf ls 0).I.toNat : Int))]
def R125 (ls : List LV) : Prop := 0 ≤ (outOf ls 0).I ∧ (outOf ls 0).I ≤ 18446744073709551615
theorem k125 : Kon Go.Proofs.Try.prog s125 F125 R125 := by
  refine ⟨enters_ok Go.Proofs.Try.func125 (by kernel_rfl) (by kernel_rfl), ?_⟩
  intro ls bs vs w Tr _ _ _ hrep hr
  obtain ⟨l, ls', v, vs', rfl, rfl, hv, rfl, rfl, rfl⟩ := hrep
  simp only [Col.rep, BC.rep] at hv
  subst hv
  refine (Sh.bits_LeadingZeros64 l.I w hr.1 hr.2).mono ?_
  rintro e w' ⟨rfl, rfl⟩
  exact ⟨[_], rfl, Ext.refl _ _, ⟨_, [], rfl, rfl, rfl⟩, trivial⟩
def s111 : Sig := ⟨111, 111, [.col (.base (.int .u64)), .col (.base (.int .u64))], [.col (.base (.int .u64)), .col (.base (.int .u64))]⟩
def F111 (ls : List LV) : List LV := [.i (((outOf ls 0).I.toNat * (outOf ls 1).I.toNat / 18446744073709551616 : Nat) : Int), .i (((outOf ls 0).I.toNat * (outOf ls 1).I.toNat % 18446744073709551616 : Nat) : Int)]
def R111 (ls : List LV) : Prop := (0 ≤ (outOf ls 0).I ∧ (outOf ls 0).I < 18446744073709551616) ∧ 0 ≤ (outOf ls 1).I ∧ (outOf ls 1).I < 18446744073709551616
theorem k111 : Kon Go.Proofs.Try.prog s111 F111 R111 := by
  refine ⟨enters_ok Go.Proofs.Try.func111 (by kernel_rfl) (by kernel_rfl), ?_⟩
  intro ls bs vs w Tr _ _ _ hrep hr
  obtain ⟨l, ls', v, vs', rfl, rfl, hv, l2, ls2, v2, vs2, rfl, rfl, hv2, rfl, rfl, rfl⟩ := hrep
  simp only [Col.rep, BC.rep] at hv hv2
  subst hv hv2
  obtain ⟨⟨h1, h2⟩, h3, h4⟩ := hr
  simp only [outOf, List.getD_cons_zero, List.getD_cons_succ] at h1 h2 h3 h4
  have := Sh.bits_Mul64 l.I.toNat l2.I.toNat (by omega) (by omega) w
  rw [Int.toNat_of_nonneg h1, Int.toNat_of_nonneg h3] at this
  refine this.mono ?_
  rintro e w' ⟨rfl, rfl⟩
  exact ⟨[_, _], rfl, Ext.refl _ _, ⟨_, [_], rfl, rfl, _, [], rfl, rfl, rfl⟩, trivial⟩
end Go.Proofs.Ythhnnfmfeofknaa.Sy
