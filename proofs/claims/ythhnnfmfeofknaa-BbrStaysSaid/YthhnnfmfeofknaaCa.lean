/-
  Contracts of functions, printed by gen2.py from the trees that the evaluator finds: each function's tree, that the kernel finds the same, and the contract.
-/
import Derived.Test.YthhnnfmfeofknaaSyT
import Derived.Test.YthhnnfmfeofknaaProg
namespace Go.Proofs.Ythhnnfmfeofknaa.Sy
open Go Go.RowKit
set_option linter.unusedSimpArgs false
set_option linter.unusedVariables false
/-! tideway/tidewayref15.Size -/
def s66 : Sig := ⟨66, 66, [.col I64], [.col (.base .bool)]⟩
def t66 : Tr (List (Col × E)) :=
 (.leaf [((.base .bool), (.op2 .and (.op2 .le (.ki (0)) (.v 0)) (.op2 .le (.v 0) (.ki (1073741824)))))])
theorem c66 : compile Go.Proofs.Try.prog [] Go.Proofs.Try.f66 s66.params s66.results = some t66 := by kernel_rfl
def L66 : List (Nat × (List LV → List LV)) := []
def M66 : List (Nat × (List LV → Prop)) := []
theorem h66 : ∀ sg, sg ∈ ([] : List Sig) → ConOk Go.Proofs.Try.prog (ap L66) (apR M66) sg := fun _ h => absurd h (List.not_mem_nil)
def F66 (ls : List LV) : List LV := t66.ev (ap L66) (outOf ls)
theorem k66 : Kon Go.Proofs.Try.prog s66 F66 (fun _ => True) :=
  kon_flat h66 (by kernel_rfl) Go.Proofs.Try.func66 (by kernel_rfl) c66 fun ls _ _ => easy_ok (hard := []) (fun _ _ _ => trivial) t66 (by kernel_rfl)
/-! tideway/tidewayref16.time -/
def s67 : Sig := ⟨67, 67, [.col I64], [.col (.base .bool)]⟩
def t67 : Tr (List (Col × E)) :=
 (.leaf [((.base .bool), (.op2 .and (.op2 .le (.ki (0)) (.v 0)) (.op2 .le (.v 0) (.ki (1125899906842624)))))])
theorem c67 : compile Go.Proofs.Try.prog [] Go.Proofs.Try.f67 s67.params s67.results = some t67 := by kernel_rfl
def L67 : List (Nat × (List LV → List LV)) := []
def M67 : List (Nat × (List LV → Prop)) := []
theorem h67 : ∀ sg, sg ∈ ([] : List Sig) → ConOk Go.Proofs.Try.prog (ap L67) (apR M67) sg := fun _ h => absurd h (List.not_mem_nil)
def F67 (ls : List LV) : List LV := t67.ev (ap L67) (outOf ls)
theorem k67 : Kon Go.Proofs.Try.prog s67 F67 (fun _ => True) :=
  kon_flat h67 (by kernel_rfl) Go.Proofs.Try.func67 (by kernel_rfl) c67 fun ls _ _ => easy_ok (hard := []) (fun _ _ _ => trivial) t67 (by kernel_rfl)
/-! tideway/tidewayref01.Clamp -/
def s70 : Sig := ⟨70, 70, [.col I64, .col I64, .col I64], [.col I64]⟩
def t70 : Tr (List (Col × E)) :=
 (.ite (.op2 .lt (.v 0) (.v 1))
 (.leaf [(I64, (.v 1))])
 (.ite (.op2 .lt (.v 2) (.v 0))
  (.ite (.op2 .lt (.v 2) (.v 1))
   (.leaf [(I64, (.v 1))])
   (.leaf [(I64, (.v 2))]))
  (.leaf [(I64, (.v 0))])))
theorem c70 : compile Go.Proofs.Try.prog [] Go.Proofs.Try.f70 s70.params s70.results = some t70 := by kernel_rfl
def L70 : List (Nat × (List LV → List LV)) := []
def M70 : List (Nat × (List LV → Prop)) := []
theorem h70 : ∀ sg, sg ∈ ([] : List Sig) → ConOk Go.Proofs.Try.prog (ap L70) (apR M70) sg := fun _ h => absurd h (List.not_mem_nil)
def F70 (ls : List LV) : List LV := t70.ev (ap L70) (outOf ls)
theorem k70 : Kon Go.Proofs.Try.prog s70 F70 (fun _ => True) :=
  kon_flat h70 (by kernel_rfl) Go.Proofs.Try.func70 (by kernel_rfl) c70 fun ls _ _ => easy_ok (hard := []) (fun _ _ _ => trivial) t70 (by kernel_rfl)
/-! tideway/tidewayref01.Sum -/
def s71 : Sig := ⟨71, 71, [.col I64, .col I64], [.col I64]⟩
def t71 : Tr (List (Col × E)) :=
 (.ite (.op2 .and (.op2 .lt (.ki (0)) (.v 1)) (.op2 .lt (.op1 (.wrap .i64) (.op2 .sub (.ki (9223372036854775807)) (.v 1))) (.v 0)))
 (.leaf [(I64, (.ki (9223372036854775807)))])
 (.ite (.op2 .and (.op2 .lt (.v 1) (.ki (0))) (.op2 .lt (.v 0) (.op1 (.wrap .i64) (.op2 .sub (.ki (-9223372036854775808)) (.v 1)))))
  (.leaf [(I64, (.ki (-9223372036854775808)))])
  (.leaf [(I64, (.op1 (.wrap .i64) (.op2 .add (.v 0) (.v 1))))])))
theorem c71 : compile Go.Proofs.Try.prog [] Go.Proofs.Try.f71 s71.params s71.results = some t71 := by kernel_rfl
def L71 : List (Nat × (List LV → List LV)) := []
def M71 : List (Nat × (List LV → Prop)) := []
theorem h71 : ∀ sg, sg ∈ ([] : List Sig) → ConOk Go.Proofs.Try.prog (ap L71) (apR M71) sg := fun _ h => absurd h (List.not_mem_nil)
def F71 (ls : List LV) : List LV := t71.ev (ap L71) (outOf ls)
theorem k71 : Kon Go.Proofs.Try.prog s71 F71 (fun _ => True) :=
  kon_flat h71 (by kernel_rfl) Go.Proofs.Try.func71 (by kernel_rfl) c71 fun ls _ _ => easy_ok (hard := []) (fun _ _ _ => trivial) t71 (by kernel_rfl)
/-! tideway/tidewayref15.Plain -/
def s74 : Sig := ⟨74, 74, [.agg [I64, I64, I64, I64, I64, I64, I64, I64, I64, I64, I64, (.sl [(.int .i64), (.int .i64)]), I64, I64, I64, I64, I64, I64, I64, I64, I64, I64], .col (.base .bool), .col (.base .bool)], [.col (.base .bool)]⟩
def t74 : Tr (List (Col × E)) :=
 (.ite (.op2 .and (.op1 .not (.v 22)) (.op2 .or (.op2 .or (.op2 .or (.op2 .or (.op1 .not (.op2 .eq (.v 5) (.ki (0)))) (.op1 .not (.op2 .eq (.v 6) (.ki (0))))) (.op1 .not (.op2 .eq (.v 7) (.ki (0))))) (.op1 .not (.op2 .eq (.v 8) (.ki (0))))) (.op1 .not (.op2 .eq (.v 9) (.ki (0))))))
 (.leaf [((.base .bool), (.kb false))])
 (.ite (.op2 .and (.op1 .not (.v 23)) (.op2 .or (.op2 .or (.op2 .or (.op2 .or (.op2 .or (.op2 .or (.op2 .or (.op2 .or (.op2 .or (.op2 .or (.op2 .or (.op1 .not (.op2 .eq (.v 10) (.ki (0)))) (.op2 .lt (.ki (0)) (.len (.v 11)))) (.op1 .not (.op2 .eq (.v 12) (.ki (0))))) (.op1 .not (.op2 .eq (.v 13) (.ki (0))))) (.op1 .not (.op2 .eq (.v 14) (.ki (0))))) (.op1 .not (.op2 .eq (.v 15) (.ki (0))))) (.op1 .not (.op2 .eq (.v 16) (.ki (0))))) (.op1 .not (.op2 .eq (.v 17) (.ki (0))))) (.op1 .not (.op2 .eq (.v 18) (.ki (0))))) (.op1 .not (.op2 .eq (.v 19) (.ki (0))))) (.op1 .not (.op2 .eq (.v 20) (.ki (0))))) (.op1 .not (.op2 .eq (.v 21) (.ki (0))))))
  (.leaf [((.base .bool), (.kb false))])
  (.leaf [((.base .bool), (.kb true))])))
theorem c74 : compile Go.Proofs.Try.prog [] Go.Proofs.Try.f74 s74.params s74.results = some t74 := by kernel_rfl
def L74 : List (Nat × (List LV → List LV)) := []
def M74 : List (Nat × (List LV → Prop)) := []
theorem h74 : ∀ sg, sg ∈ ([] : List Sig) → ConOk Go.Proofs.Try.prog (ap L74) (apR M74) sg := fun _ h => absurd h (List.not_mem_nil)
def F74 (ls : List LV) : List LV := t74.ev (ap L74) (outOf ls)
theorem k74 : Kon Go.Proofs.Try.prog s74 F74 (fun _ => True) :=
  kon_flat h74 (by kernel_rfl) Go.Proofs.Try.func74 (by kernel_rfl) c74 fun ls _ _ => easy_ok (hard := []) (fun _ _ _ => trivial) t74 (by kernel_rfl)
/-! tideway/seq.Clamp -/
def s75 : Sig := ⟨75, 75, [.col I64, .col I64, .col I64], [.col I64]⟩
def t75 : Tr (List (Col × E)) :=
 (.leaf [(I64, (.op2 .mx (.v 1) (.op2 .mn (.v 0) (.v 2))))])
theorem c75 : compile Go.Proofs.Try.prog [] Go.Proofs.Try.f75 s75.params s75.results = some t75 := by kernel_rfl
def L75 : List (Nat × (List LV → List LV)) := []
def M75 : List (Nat × (List LV → Prop)) := []
theorem h75 : ∀ sg, sg ∈ ([] : List Sig) → ConOk Go.Proofs.Try.prog (ap L75) (apR M75) sg := fun _ h => absurd h (List.not_mem_nil)
def F75 (ls : List LV) : List LV := t75.ev (ap L75) (outOf ls)
theorem k75 : Kon Go.Proofs.Try.prog s75 F75 (fun _ => True) :=
  kon_flat h75 (by kernel_rfl) Go.Proofs.Try.func75 (by kernel_rfl) c75 fun ls _ _ => easy_ok (hard := []) (fun _ _ _ => trivial) t75 (by kernel_rfl)
/-! tideway/seq.Sum -/
def s76 : Sig := ⟨76, 76, [.col I64, .col I64], [.col I64]⟩
def t76 : Tr (List (Col × E)) :=
 (.ite (.op2 .and (.op2 .and (.op2 .lt (.ki (0)) (.v 0)) (.op2 .lt (.ki (0)) (.v 1))) (.op2 .lt (.op1 (.wrap .i64) (.op2 .add (.v 0) (.v 1))) (.ki (0))))
 (.leaf [(I64, (.ki (9223372036854775807)))])
 (.ite (.op2 .and (.op2 .and (.op2 .lt (.v 0) (.ki (0))) (.op2 .lt (.v 1) (.ki (0)))) (.op2 .le (.ki (0)) (.op1 (.wrap .i64) (.op2 .add (.v 0) (.v 1)))))
  (.leaf [(I64, (.ki (-9223372036854775808)))])
  (.leaf [(I64, (.op1 (.wrap .i64) (.op2 .add (.v 0) (.v 1))))])))
theorem c76 : compile Go.Proofs.Try.prog [] Go.Proofs.Try.f76 s76.params s76.results = some t76 := by kernel_rfl
def L76 : List (Nat × (List LV → List LV)) := []
def M76 : List (Nat × (List LV → Prop)) := []
theorem h76 : ∀ sg, sg ∈ ([] : List Sig) → ConOk Go.Proofs.Try.prog (ap L76) (apR M76) sg := fun _ h => absurd h (List.not_mem_nil)
def F76 (ls : List LV) : List LV := t76.ev (ap L76) (outOf ls)
theorem k76 : Kon Go.Proofs.Try.prog s76 F76 (fun _ => True) :=
  kon_flat h76 (by kernel_rfl) Go.Proofs.Try.func76 (by kernel_rfl) c76 fun ls _ _ => easy_ok (hard := []) (fun _ _ _ => trivial) t76 (by kernel_rfl)
/-! tideway/reno.New -/
def s78 : Sig := ⟨78, 78, [.col I64, .col I64], [.agg [I64, I64, I64, I64, I64, I64, I64, I64, I64, I64, I64, (.sl [(.int .i64), (.int .i64)]), I64, I64, I64, I64, I64, I64, I64, I64, I64, I64], .col I64]⟩
def t78 : Tr (List (Col × E)) :=
 (.ite (.op2 .or (.op2 .or (.op2 .or (.op2 .lt (.v 0) (.ki (1))) (.op2 .lt (.ki (65000)) (.v 0))) (.op2 .lt (.v 1) (.ki (1)))) (.op2 .lt (.ki (100)) (.v 1)))
 (.leaf [(I64, (.ki (0))), (I64, (.ki (0))), (I64, (.ki (0))), (I64, (.ki (0))), (I64, (.ki (0))), (I64, (.ki (0))), (I64, (.ki (0))), (I64, (.ki (0))), (I64, (.ki (0))), (I64, (.ki (0))), (I64, (.ki (0))), ((.sl [(.int .i64), (.int .i64)]), .lnil), (I64, (.ki (0))), (I64, (.ki (0))), (I64, (.ki (0))), (I64, (.ki (0))), (I64, (.ki (0))), (I64, (.ki (0))), (I64, (.ki (0))), (I64, (.ki (0))), (I64, (.ki (0))), (I64, (.ki (0))), (I64, (.ki (2)))])
 (.leaf [(I64, (.ki (1))), (I64, (.v 0)), (I64, (.op1 (.wrap .i64) (.op2 .mul (.v 0) (.v 1)))), (I64, (.ki (1073741824))), (I64, (.ki (0))), (I64, (.ki (0))), (I64, (.ki (0))), (I64, (.ki (0))), (I64, (.ki (0))), (I64, (.ki (0))), (I64, (.ki (0))), ((.sl [(.int .i64), (.int .i64)]), .lnil), (I64, (.ki (0))), (I64, (.ki (0))), (I64, (.ki (0))), (I64, (.ki (0))), (I64, (.ki (0))), (I64, (.ki (0))), (I64, (.ki (0))), (I64, (.ki (0))), (I64, (.ki (0))), (I64, (.ki (0))), (I64, (.ki (0)))]))
theorem c78 : compile Go.Proofs.Try.prog [] Go.Proofs.Try.f78 s78.params s78.results = some t78 := by kernel_rfl
def L78 : List (Nat × (List LV → List LV)) := []
def M78 : List (Nat × (List LV → Prop)) := []
theorem h78 : ∀ sg, sg ∈ ([] : List Sig) → ConOk Go.Proofs.Try.prog (ap L78) (apR M78) sg := fun _ h => absurd h (List.not_mem_nil)
def F78 (ls : List LV) : List LV := t78.ev (ap L78) (outOf ls)
theorem k78 : Kon Go.Proofs.Try.prog s78 F78 (fun _ => True) :=
  kon_flat h78 (by kernel_rfl) Go.Proofs.Try.func78 (by kernel_rfl) c78 fun ls _ _ => easy_ok (hard := []) (fun _ _ _ => trivial) t78 (by kernel_rfl)
/-! (*tideway/cubic.ctl).fall -/
def s80 : Sig := ⟨80, 80, [.ptr true [I64, I64, I64, I64, I64, I64, I64, I64, I64, I64, I64, (.sl [(.int .i64), (.int .i64)]), I64, I64, I64, I64, I64, I64, I64, I64, I64, I64]], []⟩
def t80 : Tr (List (Col × E)) :=
 (.leaf [(I64, (.v 0)), (I64, (.v 1)), (I64, (.v 2)), (I64, (.op2 .mx (.op1 (.wrap .i64) (.op2 .mul (.ki (2)) (.v 1))) (.op1 (.wrap .i64) (.op2 .quo (.op1 (.wrap .i64) (.op2 .mul (.ki (7)) (.v 2))) (.ki (10)))))), (I64, (.ki (0))), (I64, (.iteI (.op2 .lt (.v 2) (.v 5)) (.op1 (.wrap .i64) (.op2 .quo (.op1 (.wrap .i64) (.op2 .mul (.ki (17)) (.v 2))) (.ki (20)))) (.v 2))), (I64, (.ki (-1))), (I64, (.v 7)), (I64, (.v 8)), (I64, (.v 9)), (I64, (.v 10)), ((.sl [(.int .i64), (.int .i64)]), (.v 11)), (I64, (.v 12)), (I64, (.v 13)), (I64, (.v 14)), (I64, (.v 15)), (I64, (.v 16)), (I64, (.v 17)), (I64, (.v 18)), (I64, (.v 19)), (I64, (.v 20)), (I64, (.v 21))])
theorem c80 : compile Go.Proofs.Try.prog [] Go.Proofs.Try.f80 s80.params s80.results = some t80 := by kernel_rfl
def L80 : List (Nat × (List LV → List LV)) := []
def M80 : List (Nat × (List LV → Prop)) := []
theorem h80 : ∀ sg, sg ∈ ([] : List Sig) → ConOk Go.Proofs.Try.prog (ap L80) (apR M80) sg := fun _ h => absurd h (List.not_mem_nil)
def F80 (ls : List LV) : List LV := t80.ev (ap L80) (outOf ls)
theorem k80 : Kon Go.Proofs.Try.prog s80 F80 (fun _ => True) :=
  kon_flat h80 (by kernel_rfl) Go.Proofs.Try.func80 (by kernel_rfl) c80 fun ls _ _ => easy_ok (hard := []) (fun _ _ _ => trivial) t80 (by kernel_rfl)
/-! (*tideway/cubic.ctl).done -/
def s81 : Sig := ⟨81, 81, [.ptr true [I64, I64, I64, I64, I64, I64, I64, I64, I64, I64, I64, (.sl [(.int .i64), (.int .i64)]), I64, I64, I64, I64, I64, I64, I64, I64, I64, I64]], []⟩
def t81 : Tr (List (Col × E)) :=
 (.leaf [(I64, (.v 0)), (I64, (.v 1)), (I64, (.v 3)), (I64, (.v 3)), (I64, (.v 4)), (I64, (.v 5)), (I64, (.v 6)), (I64, (.v 7)), (I64, (.v 8)), (I64, (.v 9)), (I64, (.v 10)), ((.sl [(.int .i64), (.int .i64)]), (.v 11)), (I64, (.v 12)), (I64, (.v 13)), (I64, (.v 14)), (I64, (.v 15)), (I64, (.v 16)), (I64, (.v 17)), (I64, (.v 18)), (I64, (.v 19)), (I64, (.v 20)), (I64, (.v 21))])
theorem c81 : compile Go.Proofs.Try.prog [] Go.Proofs.Try.f81 s81.params s81.results = some t81 := by kernel_rfl
def L81 : List (Nat × (List LV → List LV)) := []
def M81 : List (Nat × (List LV → Prop)) := []
theorem h81 : ∀ sg, sg ∈ ([] : List Sig) → ConOk Go.Proofs.Try.prog (ap L81) (apR M81) sg := fun _ h => absurd h (List.not_mem_nil)
def F81 (ls : List LV) : List LV := t81.ev (ap L81) (outOf ls)
theorem k81 : Kon Go.Proofs.Try.prog s81 F81 (fun _ => True) :=
  kon_flat h81 (by kernel_rfl) Go.Proofs.Try.func81 (by kernel_rfl) c81 fun ls _ _ => easy_ok (hard := []) (fun _ _ _ => trivial) t81 (by kernel_rfl)
/-! (*tideway/cubic.ctl).shut -/
def s82 : Sig := ⟨82, 82, [.ptr true [I64, I64, I64, I64, I64, I64, I64, I64, I64, I64, I64, (.sl [(.int .i64), (.int .i64)]), I64, I64, I64, I64, I64, I64, I64, I64, I64, I64]], []⟩
def t82 : Tr (List (Col × E)) :=
 (.item (.bind 80 [(.v 0), (.v 1), (.v 2), (.v 3), (.v 4), (.v 5), (.v 6), (.v 7), (.v 8), (.v 9), (.v 10), (.v 11), (.v 12), (.v 13), (.v 14), (.v 15), (.v 16), (.v 17), (.v 18), (.v 19), (.v 20), (.v 21)] 22 22)
 (.item (.pre (.kb true) 80 [(.v 0), (.v 1), (.v 2), (.v 3), (.v 4), (.v 5), (.v 6), (.v 7), (.v 8), (.v 9), (.v 10), (.v 11), (.v 12), (.v 13), (.v 14), (.v 15), (.v 16), (.v 17), (.v 18), (.v 19), (.v 20), (.v 21)])
 (.leaf [(I64, (.v 22)), (I64, (.v 23)), (I64, (.v 23)), (I64, (.v 25)), (I64, (.v 26)), (I64, (.v 27)), (I64, (.v 28)), (I64, (.v 29)), (I64, (.v 30)), (I64, (.v 31)), (I64, (.v 32)), ((.sl [(.int .i64), (.int .i64)]), (.v 33)), (I64, (.v 34)), (I64, (.v 35)), (I64, (.v 36)), (I64, (.v 37)), (I64, (.v 38)), (I64, (.v 39)), (I64, (.v 40)), (I64, (.v 41)), (I64, (.v 42)), (I64, (.v 43))])))
theorem c82 : compile Go.Proofs.Try.prog [s80] Go.Proofs.Try.f82 s82.params s82.results = some t82 := by kernel_rfl
def L82 : List (Nat × (List LV → List LV)) := [(80, F80)]
def M82 : List (Nat × (List LV → Prop)) := []
theorem h82 : ∀ sg, sg ∈ [s80] → ConOk Go.Proofs.Try.prog (ap L82) (apR M82) sg := by
  intro sg h
  simp only [List.mem_cons, List.not_mem_nil, or_false] at h
  rcases h with rfl
  · exact k80.to rfl rfl
def F82 (ls : List LV) : List LV := t82.ev (ap L82) (outOf ls)
theorem k82 : Kon Go.Proofs.Try.prog s82 F82 (fun _ => True) :=
  kon_flat h82 (by kernel_rfl) Go.Proofs.Try.func82 (by kernel_rfl) c82 fun ls _ _ => easy_ok (hard := []) (fun _ _ _ => trivial) t82 (by kernel_rfl)
/-! tideway/tidewayref15.New -/
def s83 : Sig := ⟨83, 83, [.col I64, .col I64], [.agg [I64, I64, I64, I64, I64, I64, I64, I64, I64, I64, I64, (.sl [(.int .i64), (.int .i64)]), I64, I64, I64, I64, I64, I64, I64, I64, I64, I64], .col I64]⟩
def t83 : Tr (List (Col × E)) :=
 (.ite (.op2 .or (.op2 .or (.op2 .or (.op2 .lt (.v 0) (.ki (1))) (.op2 .lt (.ki (65000)) (.v 0))) (.op2 .lt (.v 1) (.ki (1)))) (.op2 .lt (.ki (100)) (.v 1)))
 (.leaf [(I64, (.ki (0))), (I64, (.ki (0))), (I64, (.ki (0))), (I64, (.ki (0))), (I64, (.ki (0))), (I64, (.ki (0))), (I64, (.ki (0))), (I64, (.ki (0))), (I64, (.ki (0))), (I64, (.ki (0))), (I64, (.ki (0))), ((.sl [(.int .i64), (.int .i64)]), .lnil), (I64, (.ki (0))), (I64, (.ki (0))), (I64, (.ki (0))), (I64, (.ki (0))), (I64, (.ki (0))), (I64, (.ki (0))), (I64, (.ki (0))), (I64, (.ki (0))), (I64, (.ki (0))), (I64, (.ki (0))), (I64, (.ki (2)))])
 (.leaf [(I64, (.ki (1))), (I64, (.v 0)), (I64, (.op1 (.wrap .i64) (.op2 .mul (.v 1) (.v 0)))), (I64, (.ki (1073741824))), (I64, (.ki (0))), (I64, (.ki (0))), (I64, (.ki (0))), (I64, (.ki (0))), (I64, (.ki (0))), (I64, (.ki (0))), (I64, (.ki (0))), ((.sl [(.int .i64), (.int .i64)]), .lnil), (I64, (.ki (0))), (I64, (.ki (0))), (I64, (.ki (0))), (I64, (.ki (0))), (I64, (.ki (0))), (I64, (.ki (0))), (I64, (.ki (0))), (I64, (.ki (0))), (I64, (.ki (0))), (I64, (.ki (0))), (I64, (.ki (0)))]))
theorem c83 : compile Go.Proofs.Try.prog [] Go.Proofs.Try.f83 s83.params s83.results = some t83 := by kernel_rfl
def L83 : List (Nat × (List LV → List LV)) := []
def M83 : List (Nat × (List LV → Prop)) := []
theorem h83 : ∀ sg, sg ∈ ([] : List Sig) → ConOk Go.Proofs.Try.prog (ap L83) (apR M83) sg := fun _ h => absurd h (List.not_mem_nil)
def F83 (ls : List LV) : List LV := t83.ev (ap L83) (outOf ls)
theorem k83 : Kon Go.Proofs.Try.prog s83 F83 (fun _ => True) :=
  kon_flat h83 (by kernel_rfl) Go.Proofs.Try.func83 (by kernel_rfl) c83 fun ls _ _ => easy_ok (hard := []) (fun _ _ _ => trivial) t83 (by kernel_rfl)
/-! tideway/cc.time -/
def s85 : Sig := ⟨85, 85, [.col I64], [.col (.base .bool)]⟩
def t85 : Tr (List (Col × E)) :=
 (.leaf [((.base .bool), (.op2 .and (.op2 .le (.ki (0)) (.v 0)) (.op2 .le (.v 0) (.ki (1125899906842624)))))])
theorem c85 : compile Go.Proofs.Try.prog [] Go.Proofs.Try.f85 s85.params s85.results = some t85 := by kernel_rfl
def L85 : List (Nat × (List LV → List LV)) := []
def M85 : List (Nat × (List LV → Prop)) := []
theorem h85 : ∀ sg, sg ∈ ([] : List Sig) → ConOk Go.Proofs.Try.prog (ap L85) (apR M85) sg := fun _ h => absurd h (List.not_mem_nil)
def F85 (ls : List LV) : List LV := t85.ev (ap L85) (outOf ls)
theorem k85 : Kon Go.Proofs.Try.prog s85 F85 (fun _ => True) :=
  kon_flat h85 (by kernel_rfl) Go.Proofs.Try.func85 (by kernel_rfl) c85 fun ls _ _ => easy_ok (hard := []) (fun _ _ _ => trivial) t85 (by kernel_rfl)
/-! tideway/cc.size -/
def s86 : Sig := ⟨86, 86, [.col I64], [.col (.base .bool)]⟩
def t86 : Tr (List (Col × E)) :=
 (.leaf [((.base .bool), (.op2 .and (.op2 .le (.ki (0)) (.v 0)) (.op2 .le (.v 0) (.ki (1073741824)))))])
theorem c86 : compile Go.Proofs.Try.prog [] Go.Proofs.Try.f86 s86.params s86.results = some t86 := by kernel_rfl
def L86 : List (Nat × (List LV → List LV)) := []
def M86 : List (Nat × (List LV → Prop)) := []
theorem h86 : ∀ sg, sg ∈ ([] : List Sig) → ConOk Go.Proofs.Try.prog (ap L86) (apR M86) sg := fun _ h => absurd h (List.not_mem_nil)
def F86 (ls : List LV) : List LV := t86.ev (ap L86) (outOf ls)
theorem k86 : Kon Go.Proofs.Try.prog s86 F86 (fun _ => True) :=
  kon_flat h86 (by kernel_rfl) Go.Proofs.Try.func86 (by kernel_rfl) c86 fun ls _ _ => easy_ok (hard := []) (fun _ _ _ => trivial) t86 (by kernel_rfl)
/-! tideway/tidewayref19.time -/
def s88 : Sig := ⟨88, 88, [.col I64], [.col (.base .bool)]⟩
def t88 : Tr (List (Col × E)) :=
 (.leaf [((.base .bool), (.op2 .and (.op2 .le (.ki (0)) (.v 0)) (.op2 .le (.v 0) (.ki (1125899906842624)))))])
theorem c88 : compile Go.Proofs.Try.prog [] Go.Proofs.Try.f88 s88.params s88.results = some t88 := by kernel_rfl
def L88 : List (Nat × (List LV → List LV)) := []
def M88 : List (Nat × (List LV → Prop)) := []
theorem h88 : ∀ sg, sg ∈ ([] : List Sig) → ConOk Go.Proofs.Try.prog (ap L88) (apR M88) sg := fun _ h => absurd h (List.not_mem_nil)
def F88 (ls : List LV) : List LV := t88.ev (ap L88) (outOf ls)
theorem k88 : Kon Go.Proofs.Try.prog s88 F88 (fun _ => True) :=
  kon_flat h88 (by kernel_rfl) Go.Proofs.Try.func88 (by kernel_rfl) c88 fun ls _ _ => easy_ok (hard := []) (fun _ _ _ => trivial) t88 (by kernel_rfl)
/-! (*tideway/bbr.ctl).round -/
def s97 : Sig := ⟨97, 97, [.ptr true [I64, I64, I64, I64, I64, I64, I64, I64, I64, I64, I64, (.sl [(.int .i64), (.int .i64)]), I64, I64, I64, I64, I64, I64, I64, I64, I64, I64], .agg [I64, I64, I64, I64, (.base .bool), I64, I64, I64]], [.col (.base .bool)]⟩
def t97 : Tr (List (Col × E)) :=
 (.ite (.op2 .lt (.v 28) (.v 15))
 (.leaf [((.base .bool), (.kb false)), (I64, (.v 0)), (I64, (.v 1)), (I64, (.v 2)), (I64, (.v 3)), (I64, (.v 4)), (I64, (.v 5)), (I64, (.v 6)), (I64, (.v 7)), (I64, (.v 8)), (I64, (.v 9)), (I64, (.v 10)), ((.sl [(.int .i64), (.int .i64)]), (.v 11)), (I64, (.v 12)), (I64, (.v 13)), (I64, (.v 14)), (I64, (.v 15)), (I64, (.v 16)), (I64, (.v 17)), (I64, (.v 18)), (I64, (.v 19)), (I64, (.v 20)), (I64, (.v 21))])
 (.leaf [((.base .bool), (.kb true)), (I64, (.v 0)), (I64, (.v 1)), (I64, (.v 2)), (I64, (.v 3)), (I64, (.v 4)), (I64, (.v 5)), (I64, (.v 6)), (I64, (.v 7)), (I64, (.v 8)), (I64, (.v 9)), (I64, (.v 10)), ((.sl [(.int .i64), (.int .i64)]), (.v 11)), (I64, (.v 12)), (I64, (.v 13)), (I64, (.op2 .mn (.ki (1125899906842624)) (.op1 (.wrap .i64) (.op2 .add (.v 14) (.ki (1)))))), (I64, (.v 27)), (I64, (.v 16)), (I64, (.v 17)), (I64, (.v 18)), (I64, (.v 19)), (I64, (.v 20)), (I64, (.v 21))]))
theorem c97 : compile Go.Proofs.Try.prog [] Go.Proofs.Try.f97 s97.params s97.results = some t97 := by kernel_rfl
def L97 : List (Nat × (List LV → List LV)) := []
def M97 : List (Nat × (List LV → Prop)) := []
theorem h97 : ∀ sg, sg ∈ ([] : List Sig) → ConOk Go.Proofs.Try.prog (ap L97) (apR M97) sg := fun _ h => absurd h (List.not_mem_nil)
def F97 (ls : List LV) : List LV := t97.ev (ap L97) (outOf ls)
theorem k97 : Kon Go.Proofs.Try.prog s97 F97 (fun _ => True) :=
  kon_flat h97 (by kernel_rfl) Go.Proofs.Try.func97 (by kernel_rfl) c97 fun ls _ _ => easy_ok (hard := []) (fun _ _ _ => trivial) t97 (by kernel_rfl)
/-! tideway/reno.size -/
def s108 : Sig := ⟨108, 108, [.col I64], [.col (.base .bool)]⟩
def t108 : Tr (List (Col × E)) :=
 (.leaf [((.base .bool), (.op2 .and (.op2 .le (.ki (0)) (.v 0)) (.op2 .le (.v 0) (.ki (1073741824)))))])
theorem c108 : compile Go.Proofs.Try.prog [] Go.Proofs.Try.f108 s108.params s108.results = some t108 := by kernel_rfl
def L108 : List (Nat × (List LV → List LV)) := []
def M108 : List (Nat × (List LV → Prop)) := []
theorem h108 : ∀ sg, sg ∈ ([] : List Sig) → ConOk Go.Proofs.Try.prog (ap L108) (apR M108) sg := fun _ h => absurd h (List.not_mem_nil)
def F108 (ls : List LV) : List LV := t108.ev (ap L108) (outOf ls)
theorem k108 : Kon Go.Proofs.Try.prog s108 F108 (fun _ => True) :=
  kon_flat h108 (by kernel_rfl) Go.Proofs.Try.func108 (by kernel_rfl) c108 fun ls _ _ => easy_ok (hard := []) (fun _ _ _ => trivial) t108 (by kernel_rfl)
/-! (*tideway/reno.ctl).plain -/
def s109 : Sig := ⟨109, 109, [.ptr false [I64, I64, I64, I64, I64, I64, I64, I64, I64, I64, I64, (.sl [(.int .i64), (.int .i64)]), I64, I64, I64, I64, I64, I64, I64, I64, I64, I64]], [.col (.base .bool)]⟩
def t109 : Tr (List (Col × E)) :=
 (.leaf [((.base .bool), (.op2 .and (.op2 .and (.op2 .and (.op2 .and (.op2 .and (.op2 .and (.op2 .and (.op2 .and (.op2 .and (.op2 .and (.op2 .and (.op2 .and (.op2 .and (.op2 .and (.op2 .and (.op2 .and (.op2 .eq (.v 5) (.ki (0))) (.op2 .eq (.v 6) (.ki (0)))) (.op2 .eq (.v 7) (.ki (0)))) (.op2 .eq (.v 8) (.ki (0)))) (.op2 .eq (.v 9) (.ki (0)))) (.op2 .eq (.v 10) (.ki (0)))) (.op2 .eq (.len (.v 11)) (.ki (0)))) (.op2 .eq (.v 12) (.ki (0)))) (.op2 .eq (.v 13) (.ki (0)))) (.op2 .eq (.v 14) (.ki (0)))) (.op2 .eq (.v 15) (.ki (0)))) (.op2 .eq (.v 16) (.ki (0)))) (.op2 .eq (.v 17) (.ki (0)))) (.op2 .eq (.v 18) (.ki (0)))) (.op2 .eq (.v 19) (.ki (0)))) (.op2 .eq (.v 20) (.ki (0)))) (.op2 .eq (.v 21) (.ki (0)))))])
theorem c109 : compile Go.Proofs.Try.prog [] Go.Proofs.Try.f109 s109.params s109.results = some t109 := by kernel_rfl
def L109 : List (Nat × (List LV → List LV)) := []
def M109 : List (Nat × (List LV → Prop)) := []
theorem h109 : ∀ sg, sg ∈ ([] : List Sig) → ConOk Go.Proofs.Try.prog (ap L109) (apR M109) sg := fun _ h => absurd h (List.not_mem_nil)
def F109 (ls : List LV) : List LV := t109.ev (ap L109) (outOf ls)
theorem k109 : Kon Go.Proofs.Try.prog s109 F109 (fun _ => True) :=
  kon_flat h109 (by kernel_rfl) Go.Proofs.Try.func109 (by kernel_rfl) c109 fun ls _ _ => easy_ok (hard := []) (fun _ _ _ => trivial) t109 (by kernel_rfl)
/-! tideway/tidewayref18.time -/
def s115 : Sig := ⟨115, 115, [.col I64], [.col (.base .bool)]⟩
def t115 : Tr (List (Col × E)) :=
 (.leaf [((.base .bool), (.op2 .and (.op2 .le (.ki (0)) (.v 0)) (.op2 .le (.v 0) (.ki (1125899906842624)))))])
theorem c115 : compile Go.Proofs.Try.prog [] Go.Proofs.Try.f115 s115.params s115.results = some t115 := by kernel_rfl
def L115 : List (Nat × (List LV → List LV)) := []
def M115 : List (Nat × (List LV → Prop)) := []
theorem h115 : ∀ sg, sg ∈ ([] : List Sig) → ConOk Go.Proofs.Try.prog (ap L115) (apR M115) sg := fun _ h => absurd h (List.not_mem_nil)
def F115 (ls : List LV) : List LV := t115.ev (ap L115) (outOf ls)
theorem k115 : Kon Go.Proofs.Try.prog s115 F115 (fun _ => True) :=
  kon_flat h115 (by kernel_rfl) Go.Proofs.Try.func115 (by kernel_rfl) c115 fun ls _ _ => easy_ok (hard := []) (fun _ _ _ => trivial) t115 (by kernel_rfl)
/-! (*tideway/bbr.ctl).probe -/
def s119 : Sig := ⟨119, 119, [.ptr true [I64, I64, I64, I64, I64, I64, I64, I64, I64, I64, I64, (.sl [(.int .i64), (.int .i64)]), I64, I64, I64, I64, I64, I64, I64, I64, I64, I64], .col I64], []⟩
def t119 : Tr (List (Col × E)) :=
 (.leaf [(I64, (.v 0)), (I64, (.v 1)), (I64, (.v 2)), (I64, (.v 3)), (I64, (.v 4)), (I64, (.v 5)), (I64, (.v 6)), (I64, (.v 7)), (I64, (.v 8)), (I64, (.v 9)), (I64, (.ki (3))), ((.sl [(.int .i64), (.int .i64)]), (.v 11)), (I64, (.v 12)), (I64, (.v 13)), (I64, (.v 14)), (I64, (.v 15)), (I64, (.v 16)), (I64, (.v 17)), (I64, (.ki (2))), (I64, (.v 22)), (I64, (.v 20)), (I64, (.v 21))])
theorem c119 : compile Go.Proofs.Try.prog [] Go.Proofs.Try.f119 s119.params s119.results = some t119 := by kernel_rfl
def L119 : List (Nat × (List LV → List LV)) := []
def M119 : List (Nat × (List LV → Prop)) := []
theorem h119 : ∀ sg, sg ∈ ([] : List Sig) → ConOk Go.Proofs.Try.prog (ap L119) (apR M119) sg := fun _ h => absurd h (List.not_mem_nil)
def F119 (ls : List LV) : List LV := t119.ev (ap L119) (outOf ls)
theorem k119 : Kon Go.Proofs.Try.prog s119 F119 (fun _ => True) :=
  kon_flat h119 (by kernel_rfl) Go.Proofs.Try.func119 (by kernel_rfl) c119 fun ls _ _ => easy_ok (hard := []) (fun _ _ _ => trivial) t119 (by kernel_rfl)
/-! tideway/tidewayref12.time -/
def s127 : Sig := ⟨127, 127, [.col I64], [.col (.base .bool)]⟩
def t127 : Tr (List (Col × E)) :=
 (.leaf [((.base .bool), (.op2 .and (.op2 .le (.ki (0)) (.v 0)) (.op2 .le (.v 0) (.ki (1125899906842624)))))])
theorem c127 : compile Go.Proofs.Try.prog [] Go.Proofs.Try.f127 s127.params s127.results = some t127 := by kernel_rfl
def L127 : List (Nat × (List LV → List LV)) := []
def M127 : List (Nat × (List LV → Prop)) := []
theorem h127 : ∀ sg, sg ∈ ([] : List Sig) → ConOk Go.Proofs.Try.prog (ap L127) (apR M127) sg := fun _ h => absurd h (List.not_mem_nil)
def F127 (ls : List LV) : List LV := t127.ev (ap L127) (outOf ls)
theorem k127 : Kon Go.Proofs.Try.prog s127 F127 (fun _ => True) :=
  kon_flat h127 (by kernel_rfl) Go.Proofs.Try.func127 (by kernel_rfl) c127 fun ls _ _ => easy_ok (hard := []) (fun _ _ _ => trivial) t127 (by kernel_rfl)
/-! tideway/tidewayref12.value -/
def s128 : Sig := ⟨128, 128, [.col I64], [.col (.base .bool)]⟩
def t128 : Tr (List (Col × E)) :=
 (.leaf [((.base .bool), (.op2 .and (.op2 .le (.ki (0)) (.v 0)) (.op2 .le (.v 0) (.ki (1152921504606846976)))))])
theorem c128 : compile Go.Proofs.Try.prog [] Go.Proofs.Try.f128 s128.params s128.results = some t128 := by kernel_rfl
def L128 : List (Nat × (List LV → List LV)) := []
def M128 : List (Nat × (List LV → Prop)) := []
theorem h128 : ∀ sg, sg ∈ ([] : List Sig) → ConOk Go.Proofs.Try.prog (ap L128) (apR M128) sg := fun _ h => absurd h (List.not_mem_nil)
def F128 (ls : List LV) : List LV := t128.ev (ap L128) (outOf ls)
theorem k128 : Kon Go.Proofs.Try.prog s128 F128 (fun _ => True) :=
  kon_flat h128 (by kernel_rfl) Go.Proofs.Try.func128 (by kernel_rfl) c128 fun ls _ _ => easy_ok (hard := []) (fun _ _ _ => trivial) t128 (by kernel_rfl)
/-! tideway/filter.may -/
def s129 : Sig := ⟨129, 129, [.agg [I64, I64]], [.col (.base .bool)]⟩
def t129 : Tr (List (Col × E)) :=
 (.leaf [((.base .bool), (.op2 .and (.op2 .and (.op2 .and (.op2 .le (.ki (0)) (.v 0)) (.op2 .le (.v 0) (.ki (1125899906842624)))) (.op2 .le (.ki (0)) (.v 1))) (.op2 .le (.v 1) (.ki (1152921504606846976)))))])
theorem c129 : compile Go.Proofs.Try.prog [] Go.Proofs.Try.f129 s129.params s129.results = some t129 := by kernel_rfl
def L129 : List (Nat × (List LV → List LV)) := []
def M129 : List (Nat × (List LV → Prop)) := []
theorem h129 : ∀ sg, sg ∈ ([] : List Sig) → ConOk Go.Proofs.Try.prog (ap L129) (apR M129) sg := fun _ h => absurd h (List.not_mem_nil)
def F129 (ls : List LV) : List LV := t129.ev (ap L129) (outOf ls)
theorem k129 : Kon Go.Proofs.Try.prog s129 F129 (fun _ => True) :=
  kon_flat h129 (by kernel_rfl) Go.Proofs.Try.func129 (by kernel_rfl) c129 fun ls _ _ => easy_ok (hard := []) (fun _ _ _ => trivial) t129 (by kernel_rfl)
/-! tideway/filter.beats -/
def s130 : Sig := ⟨130, 130, [.col I64, .col I64, .col (.base .bool)], [.col (.base .bool)]⟩
def t130 : Tr (List (Col × E)) :=
 (.leaf [((.base .bool), (.op2 .or (.op2 .and (.v 2) (.op2 .le (.v 1) (.v 0))) (.op2 .and (.op1 .not (.v 2)) (.op2 .le (.v 0) (.v 1)))))])
theorem c130 : compile Go.Proofs.Try.prog [] Go.Proofs.Try.f130 s130.params s130.results = some t130 := by kernel_rfl
def L130 : List (Nat × (List LV → List LV)) := []
def M130 : List (Nat × (List LV → Prop)) := []
theorem h130 : ∀ sg, sg ∈ ([] : List Sig) → ConOk Go.Proofs.Try.prog (ap L130) (apR M130) sg := fun _ h => absurd h (List.not_mem_nil)
def F130 (ls : List LV) : List LV := t130.ev (ap L130) (outOf ls)
theorem k130 : Kon Go.Proofs.Try.prog s130 F130 (fun _ => True) :=
  kon_flat h130 (by kernel_rfl) Go.Proofs.Try.func130 (by kernel_rfl) c130 fun ls _ _ => easy_ok (hard := []) (fun _ _ _ => trivial) t130 (by kernel_rfl)
/-! tideway/span.may -/
def s63 : Sig := ⟨63, 63, [.agg [I64, I64]], [.col (.base .bool)]⟩
def t63 : Tr (List (Col × E)) :=
 (.leaf [((.base .bool), (.op2 .and (.op2 .and (.op2 .le (.ki (0)) (.v 0)) (.op2 .le (.v 0) (.v 1))) (.op2 .le (.v 1) (.ki (1125899906842624)))))])
theorem c63 : compile Go.Proofs.Try.prog [] Go.Proofs.Try.f63 s63.params s63.results = some t63 := by kernel_rfl
def L63 : List (Nat × (List LV → List LV)) := []
def M63 : List (Nat × (List LV → Prop)) := []
theorem h63 : ∀ sg, sg ∈ ([] : List Sig) → ConOk Go.Proofs.Try.prog (ap L63) (apR M63) sg := fun _ h => absurd h (List.not_mem_nil)
def F63 (ls : List LV) : List LV := t63.ev (ap L63) (outOf ls)
theorem k63 : Kon Go.Proofs.Try.prog s63 F63 (fun _ => True) :=
  kon_flat h63 (by kernel_rfl) Go.Proofs.Try.func63 (by kernel_rfl) c63 fun ls _ _ => easy_ok (hard := []) (fun _ _ _ => trivial) t63 (by kernel_rfl)
/-! tideway/tidewayref06.right -/
def s62 : Sig := ⟨62, 62, [.agg [I64, I64]], [.col (.base .bool)]⟩
def t62 : Tr (List (Col × E)) :=
 (.leaf [((.base .bool), (.op2 .and (.op2 .and (.op2 .le (.ki (0)) (.v 0)) (.op2 .le (.v 0) (.v 1))) (.op2 .le (.v 1) (.ki (1125899906842624)))))])
theorem c62 : compile Go.Proofs.Try.prog [] Go.Proofs.Try.f62 s62.params s62.results = some t62 := by kernel_rfl
def L62 : List (Nat × (List LV → List LV)) := []
def M62 : List (Nat × (List LV → Prop)) := []
theorem h62 : ∀ sg, sg ∈ ([] : List Sig) → ConOk Go.Proofs.Try.prog (ap L62) (apR M62) sg := fun _ h => absurd h (List.not_mem_nil)
def F62 (ls : List LV) : List LV := t62.ev (ap L62) (outOf ls)
theorem k62 : Kon Go.Proofs.Try.prog s62 F62 (fun _ => True) :=
  kon_flat h62 (by kernel_rfl) Go.Proofs.Try.func62 (by kernel_rfl) c62 fun ls _ _ => easy_ok (hard := []) (fun _ _ _ => trivial) t62 (by kernel_rfl)
/-! tideway/tidewayref15.Common -/
def s73 : Sig := ⟨73, 73, [.agg [I64, I64, I64, I64, I64, I64, I64, I64, I64, I64, I64, (.sl [(.int .i64), (.int .i64)]), I64, I64, I64, I64, I64, I64, I64, I64, I64, I64]], [.col (.base .bool)]⟩
def t73 : Tr (List (Col × E)) :=
 (.item (.bind 66 [(.v 4)] 22 1)
 (.item (.pre (.op2 .and (.op2 .and (.op2 .and (.op2 .and (.op2 .and (.op2 .le (.ki (1)) (.v 1)) (.op2 .le (.v 1) (.ki (65000)))) (.op2 .le (.v 1) (.v 2))) (.op2 .le (.v 2) (.ki (1073741824)))) (.op2 .le (.op1 (.wrap .i64) (.op2 .mul (.ki (2)) (.v 1))) (.v 3))) (.op2 .le (.v 3) (.ki (1073741824)))) 66 [(.v 4)])
 (.leaf [((.base .bool), (.op2 .and (.op2 .and (.op2 .and (.op2 .and (.op2 .and (.op2 .and (.op2 .le (.ki (1)) (.v 1)) (.op2 .le (.v 1) (.ki (65000)))) (.op2 .le (.v 1) (.v 2))) (.op2 .le (.v 2) (.ki (1073741824)))) (.op2 .le (.op1 (.wrap .i64) (.op2 .mul (.ki (2)) (.v 1))) (.v 3))) (.op2 .le (.v 3) (.ki (1073741824)))) (.v 22)))])))
theorem c73 : compile Go.Proofs.Try.prog [s66] Go.Proofs.Try.f73 s73.params s73.results = some t73 := by kernel_rfl
def L73 : List (Nat × (List LV → List LV)) := [(66, F66)]
def M73 : List (Nat × (List LV → Prop)) := []
theorem h73 : ∀ sg, sg ∈ [s66] → ConOk Go.Proofs.Try.prog (ap L73) (apR M73) sg := by
  intro sg h
  simp only [List.mem_cons, List.not_mem_nil, or_false] at h
  rcases h with rfl
  · exact k66.to rfl rfl
def F73 (ls : List LV) : List LV := t73.ev (ap L73) (outOf ls)
theorem k73 : Kon Go.Proofs.Try.prog s73 F73 (fun _ => True) :=
  kon_flat h73 (by kernel_rfl) Go.Proofs.Try.func73 (by kernel_rfl) c73 fun ls _ _ => easy_ok (hard := []) (fun _ _ _ => trivial) t73 (by kernel_rfl)
/-! tideway/reno.Check -/
def s72 : Sig := ⟨72, 72, [.agg [I64, I64, I64, I64, I64, I64, I64, I64, I64, I64, I64, (.sl [(.int .i64), (.int .i64)]), I64, I64, I64, I64, I64, I64, I64, I64, I64, I64]], [.col I64]⟩
def t72 : Tr (List (Col × E)) :=
 (.item (.bind 108 [(.v 2)] 22 1)
 (.item (.bind 108 [(.v 3)] 23 1)
 (.item (.bind 108 [(.v 4)] 24 1)
 (.item (.bind 109 [(.v 0), (.v 1), (.v 2), (.v 3), (.v 4), (.v 5), (.v 6), (.v 7), (.v 8), (.v 9), (.v 10), (.v 11), (.v 12), (.v 13), (.v 14), (.v 15), (.v 16), (.v 17), (.v 18), (.v 19), (.v 20), (.v 21)] 25 1)
 (.item (.pre (.op1 .not (.op2 .or (.op2 .or (.op2 .or (.op1 .not (.op2 .eq (.v 0) (.ki (1)))) (.op2 .lt (.v 1) (.ki (1)))) (.op2 .lt (.ki (65000)) (.v 1))) (.op2 .lt (.v 2) (.v 1)))) 108 [(.v 2)])
 (.item (.pre (.op1 .not (.op2 .or (.op2 .or (.op2 .or (.op2 .or (.op2 .or (.op1 .not (.op2 .eq (.v 0) (.ki (1)))) (.op2 .lt (.v 1) (.ki (1)))) (.op2 .lt (.ki (65000)) (.v 1))) (.op2 .lt (.v 2) (.v 1))) (.op1 .not (.v 22))) (.op2 .lt (.v 3) (.op1 (.wrap .i64) (.op2 .mul (.ki (2)) (.v 1)))))) 108 [(.v 3)])
 (.item (.pre (.op1 .not (.op2 .or (.op2 .or (.op2 .or (.op2 .or (.op2 .or (.op2 .or (.op1 .not (.op2 .eq (.v 0) (.ki (1)))) (.op2 .lt (.v 1) (.ki (1)))) (.op2 .lt (.ki (65000)) (.v 1))) (.op2 .lt (.v 2) (.v 1))) (.op1 .not (.v 22))) (.op2 .lt (.v 3) (.op1 (.wrap .i64) (.op2 .mul (.ki (2)) (.v 1))))) (.op1 .not (.v 23)))) 108 [(.v 4)])
 (.item (.pre (.op1 .not (.op2 .or (.op2 .or (.op2 .or (.op2 .or (.op2 .or (.op2 .or (.op2 .or (.op1 .not (.op2 .eq (.v 0) (.ki (1)))) (.op2 .lt (.v 1) (.ki (1)))) (.op2 .lt (.ki (65000)) (.v 1))) (.op2 .lt (.v 2) (.v 1))) (.op1 .not (.v 22))) (.op2 .lt (.v 3) (.op1 (.wrap .i64) (.op2 .mul (.ki (2)) (.v 1))))) (.op1 .not (.v 23))) (.op1 .not (.v 24)))) 109 [(.v 0), (.v 1), (.v 2), (.v 3), (.v 4), (.v 5), (.v 6), (.v 7), (.v 8), (.v 9), (.v 10), (.v 11), (.v 12), (.v 13), (.v 14), (.v 15), (.v 16), (.v 17), (.v 18), (.v 19), (.v 20), (.v 21)])
 (.ite (.op2 .or (.op2 .or (.op2 .or (.op2 .or (.op2 .or (.op2 .or (.op2 .or (.op2 .or (.op1 .not (.op2 .eq (.v 0) (.ki (1)))) (.op2 .lt (.v 1) (.ki (1)))) (.op2 .lt (.ki (65000)) (.v 1))) (.op2 .lt (.v 2) (.v 1))) (.op1 .not (.v 22))) (.op2 .lt (.v 3) (.op1 (.wrap .i64) (.op2 .mul (.ki (2)) (.v 1))))) (.op1 .not (.v 23))) (.op1 .not (.v 24))) (.op1 .not (.v 25)))
 (.leaf [(I64, (.ki (230)))])
 (.leaf [(I64, (.ki (0)))]))))))))))
theorem c72 : compile Go.Proofs.Try.prog [s108, s109] Go.Proofs.Try.f72 s72.params s72.results = some t72 := by kernel_rfl
def L72 : List (Nat × (List LV → List LV)) := [(108, F108), (109, F109)]
def M72 : List (Nat × (List LV → Prop)) := []
theorem h72 : ∀ sg, sg ∈ [s108, s109] → ConOk Go.Proofs.Try.prog (ap L72) (apR M72) sg := by
  intro sg h
  simp only [List.mem_cons, List.not_mem_nil, or_false] at h
  rcases h with rfl | rfl
  · exact k108.to rfl rfl
  · exact k109.to rfl rfl
def F72 (ls : List LV) : List LV := t72.ev (ap L72) (outOf ls)
theorem k72 : Kon Go.Proofs.Try.prog s72 F72 (fun _ => True) :=
  kon_flat h72 (by kernel_rfl) Go.Proofs.Try.func72 (by kernel_rfl) c72 fun ls _ _ => easy_ok (hard := []) (fun _ _ _ => trivial) t72 (by kernel_rfl)
/-! tideway/tidewayref15.Check -/
def s110 : Sig := ⟨110, 110, [.agg [I64, I64, I64, I64, I64, I64, I64, I64, I64, I64, I64, (.sl [(.int .i64), (.int .i64)]), I64, I64, I64, I64, I64, I64, I64, I64, I64, I64]], [.col I64]⟩
def t110 : Tr (List (Col × E)) :=
 (.item (.bind 73 [(.v 0), (.v 1), (.v 2), (.v 3), (.v 4), (.v 5), (.v 6), (.v 7), (.v 8), (.v 9), (.v 10), (.v 11), (.v 12), (.v 13), (.v 14), (.v 15), (.v 16), (.v 17), (.v 18), (.v 19), (.v 20), (.v 21)] 22 1)
 (.item (.bind 74 [(.v 0), (.v 1), (.v 2), (.v 3), (.v 4), (.v 5), (.v 6), (.v 7), (.v 8), (.v 9), (.v 10), (.v 11), (.v 12), (.v 13), (.v 14), (.v 15), (.v 16), (.v 17), (.v 18), (.v 19), (.v 20), (.v 21), (.kb false), (.kb false)] 23 1)
 (.item (.pre (.op1 .not (.op1 .not (.op2 .eq (.v 0) (.ki (1))))) 73 [(.v 0), (.v 1), (.v 2), (.v 3), (.v 4), (.v 5), (.v 6), (.v 7), (.v 8), (.v 9), (.v 10), (.v 11), (.v 12), (.v 13), (.v 14), (.v 15), (.v 16), (.v 17), (.v 18), (.v 19), (.v 20), (.v 21)])
 (.item (.pre (.op1 .not (.op2 .or (.op1 .not (.op2 .eq (.v 0) (.ki (1)))) (.op1 .not (.v 22)))) 74 [(.v 0), (.v 1), (.v 2), (.v 3), (.v 4), (.v 5), (.v 6), (.v 7), (.v 8), (.v 9), (.v 10), (.v 11), (.v 12), (.v 13), (.v 14), (.v 15), (.v 16), (.v 17), (.v 18), (.v 19), (.v 20), (.v 21), (.kb false), (.kb false)])
 (.ite (.op2 .or (.op2 .or (.op1 .not (.op2 .eq (.v 0) (.ki (1)))) (.op1 .not (.v 22))) (.op1 .not (.v 23)))
 (.leaf [(I64, (.ki (230)))])
 (.leaf [(I64, (.ki (0)))]))))))
theorem c110 : compile Go.Proofs.Try.prog [s73, s74] Go.Proofs.Try.f110 s110.params s110.results = some t110 := by kernel_rfl
def L110 : List (Nat × (List LV → List LV)) := [(73, F73), (74, F74)]
def M110 : List (Nat × (List LV → Prop)) := []
theorem h110 : ∀ sg, sg ∈ [s73, s74] → ConOk Go.Proofs.Try.prog (ap L110) (apR M110) sg := by
  intro sg h
  simp only [List.mem_cons, List.not_mem_nil, or_false] at h
  rcases h with rfl | rfl
  · exact k73.to rfl rfl
  · exact k74.to rfl rfl
def F110 (ls : List LV) : List LV := t110.ev (ap L110) (outOf ls)
theorem k110 : Kon Go.Proofs.Try.prog s110 F110 (fun _ => True) :=
  kon_flat h110 (by kernel_rfl) Go.Proofs.Try.func110 (by kernel_rfl) c110 fun ls _ _ => easy_ok (hard := []) (fun _ _ _ => trivial) t110 (by kernel_rfl)
/-! tideway/cubic.New -/
def s31 : Sig := ⟨31, 31, [.col I64, .col I64], [.agg [I64, I64, I64, I64, I64, I64, I64, I64, I64, I64, I64, (.sl [(.int .i64), (.int .i64)]), I64, I64, I64, I64, I64, I64, I64, I64, I64, I64], .col I64]⟩
def t31 : Tr (List (Col × E)) :=
 (.item (.bind 78 [(.v 0), (.v 1)] 2 23)
 (.item (.pre (.kb true) 78 [(.v 0), (.v 1)])
 (.leaf [(I64, (.iteI (.op2 .eq (.v 24) (.ki (0))) (.ki (2)) (.v 2))), (I64, (.v 3)), (I64, (.v 4)), (I64, (.v 5)), (I64, (.v 6)), (I64, (.v 7)), (I64, (.iteI (.op2 .eq (.v 24) (.ki (0))) (.ki (-1)) (.v 8))), (I64, (.v 9)), (I64, (.v 10)), (I64, (.v 11)), (I64, (.v 12)), ((.sl [(.int .i64), (.int .i64)]), (.v 13)), (I64, (.v 14)), (I64, (.v 15)), (I64, (.v 16)), (I64, (.v 17)), (I64, (.v 18)), (I64, (.v 19)), (I64, (.v 20)), (I64, (.v 21)), (I64, (.v 22)), (I64, (.v 23)), (I64, (.v 24))])))
theorem c31 : compile Go.Proofs.Try.prog [s78] Go.Proofs.Try.f31 s31.params s31.results = some t31 := by kernel_rfl
def L31 : List (Nat × (List LV → List LV)) := [(78, F78)]
def M31 : List (Nat × (List LV → Prop)) := []
theorem h31 : ∀ sg, sg ∈ [s78] → ConOk Go.Proofs.Try.prog (ap L31) (apR M31) sg := by
  intro sg h
  simp only [List.mem_cons, List.not_mem_nil, or_false] at h
  rcases h with rfl
  · exact k78.to rfl rfl
def F31 (ls : List LV) : List LV := t31.ev (ap L31) (outOf ls)
theorem k31 : Kon Go.Proofs.Try.prog s31 F31 (fun _ => True) :=
  kon_flat h31 (by kernel_rfl) Go.Proofs.Try.func31 (by kernel_rfl) c31 fun ls _ _ => easy_ok (hard := []) (fun _ _ _ => trivial) t31 (by kernel_rfl)
/-! tideway/tidewayref16.New -/
def s38 : Sig := ⟨38, 38, [.col I64, .col I64], [.agg [I64, I64, I64, I64, I64, I64, I64, I64, I64, I64, I64, (.sl [(.int .i64), (.int .i64)]), I64, I64, I64, I64, I64, I64, I64, I64, I64, I64], .col I64]⟩
def t38 : Tr (List (Col × E)) :=
 (.item (.bind 83 [(.v 0), (.v 1)] 2 23)
 (.item (.pre (.kb true) 83 [(.v 0), (.v 1)])
 (.ite (.op1 .not (.op2 .eq (.v 24) (.ki (0))))
 (.leaf [(I64, (.ki (0))), (I64, (.ki (0))), (I64, (.ki (0))), (I64, (.ki (0))), (I64, (.ki (0))), (I64, (.ki (0))), (I64, (.ki (0))), (I64, (.ki (0))), (I64, (.ki (0))), (I64, (.ki (0))), (I64, (.ki (0))), ((.sl [(.int .i64), (.int .i64)]), .lnil), (I64, (.ki (0))), (I64, (.ki (0))), (I64, (.ki (0))), (I64, (.ki (0))), (I64, (.ki (0))), (I64, (.ki (0))), (I64, (.ki (0))), (I64, (.ki (0))), (I64, (.ki (0))), (I64, (.ki (0))), (I64, (.v 24))])
 (.leaf [(I64, (.ki (2))), (I64, (.v 3)), (I64, (.v 4)), (I64, (.v 5)), (I64, (.v 6)), (I64, (.v 7)), (I64, (.ki (-1))), (I64, (.v 9)), (I64, (.v 10)), (I64, (.v 11)), (I64, (.v 12)), ((.sl [(.int .i64), (.int .i64)]), (.v 13)), (I64, (.v 14)), (I64, (.v 15)), (I64, (.v 16)), (I64, (.v 17)), (I64, (.v 18)), (I64, (.v 19)), (I64, (.v 20)), (I64, (.v 21)), (I64, (.v 22)), (I64, (.v 23)), (I64, (.ki (0)))]))))
theorem c38 : compile Go.Proofs.Try.prog [s83] Go.Proofs.Try.f38 s38.params s38.results = some t38 := by kernel_rfl
def L38 : List (Nat × (List LV → List LV)) := [(83, F83)]
def M38 : List (Nat × (List LV → Prop)) := []
theorem h38 : ∀ sg, sg ∈ [s83] → ConOk Go.Proofs.Try.prog (ap L38) (apR M38) sg := by
  intro sg h
  simp only [List.mem_cons, List.not_mem_nil, or_false] at h
  rcases h with rfl
  · exact k83.to rfl rfl
def F38 (ls : List LV) : List LV := t38.ev (ap L38) (outOf ls)
theorem k38 : Kon Go.Proofs.Try.prog s38 F38 (fun _ => True) :=
  kon_flat h38 (by kernel_rfl) Go.Proofs.Try.func38 (by kernel_rfl) c38 fun ls _ _ => easy_ok (hard := []) (fun _ _ _ => trivial) t38 (by kernel_rfl)
/-! tideway/cubic.size -/
def s64 : Sig := ⟨64, 64, [.col (.sl [(.int .i64)])], [.col (.base .bool)]⟩
def t64 : Tr (List (Col × E)) :=
 (.loop 1 1 [(.ki (0))]
 (.ite (.op2 .lt (.v 1) (.len (.v 0)))
  (.item (.need (.op2 .le (.ki (0)) (.v 1)))
  (.item (.need (.op2 .lt (.v 1) (.len (.v 0))))
  (.ite (.op2 .or (.op2 .lt (.op2 (.rd 0) (.v 0) (.v 1)) (.ki (0))) (.op2 .lt (.ki (1073741824)) (.op2 (.rd 0) (.v 0) (.v 1))))
   (.leaf [((.base .bool), (.kb false))])
   (.next 0 [(.op1 (.wrap .i64) (.op2 .add (.v 1) (.ki (1))))]))))
  (.leaf [((.base .bool), (.kb true))])))
theorem c64 : compile Go.Proofs.Try.prog [] Go.Proofs.Try.f64 s64.params s64.results = some t64 := by kernel_rfl
def L64 : List (Nat × (List LV → List LV)) := []
def M64 : List (Nat × (List LV → Prop)) := []
theorem h64 : ∀ sg, sg ∈ ([] : List Sig) → ConOk Go.Proofs.Try.prog (ap L64) (apR M64) sg := fun _ h => absurd h (List.not_mem_nil)
/-! tideway/tidewayref01.MulDiv -/
def s68 : Sig := ⟨68, 68, [.col I64, .col I64, .col I64], [.col I64, .col I64]⟩
def t68 : Tr (List (Col × E)) :=
 (.ite (.op2 .or (.op2 .or (.op2 .lt (.v 0) (.ki (0))) (.op2 .lt (.v 1) (.ki (0)))) (.op2 .le (.v 2) (.ki (0))))
 (.leaf [(I64, (.ki (0))), (I64, (.ki (2)))])
 (.item (.need (.op1 .not (.op2 .eq (.op1 (.wrap .u64) (.v 2)) (.ki (0)))))
 (.item (.need (.op1 .not (.op2 .eq (.op1 (.wrap .u64) (.v 2)) (.ki (0)))))
 (.loop 3 4 [(.ki (62)), (.kb false), (.ki (0)), (.ki (0))]
  (.ite (.op2 .le (.ki (0)) (.v 3))
   (.item (.need (.op2 .le (.ki (0)) (.op1 (.wrap .u64) (.v 3))))
   (.ite (.op2 .or (.iteB (.op2 .eq (.op2 (.bit .and .i64) (.op2 (.shr .i64) (.v 0) (.op1 (.wrap .u64) (.v 3))) (.ki (1))) (.ki (1))) (.op2 .or (.op2 .or (.v 4) (.op2 .le (.ki (4611686018427387904)) (.v 5))) (.op2 .lt (.op1 (.wrap .u64) (.op2 .sub (.ki (9223372036854775807)) (.op1 (.wrap .u64) (.op2 .quo (.op1 (.wrap .u64) (.v 1)) (.op1 (.wrap .u64) (.v 2)))))) (.iteI (.op2 .le (.op1 (.wrap .u64) (.v 2)) (.op1 (.wrap .u64) (.op2 .mul (.ki (2)) (.v 6)))) (.op1 (.wrap .u64) (.op2 .add (.op1 (.wrap .u64) (.op2 .mul (.ki (2)) (.v 5))) (.ki (1)))) (.op1 (.wrap .u64) (.op2 .mul (.ki (2)) (.v 5)))))) (.op2 .or (.v 4) (.op2 .le (.ki (4611686018427387904)) (.v 5)))) (.op2 .lt (.ki (9223372036854775807)) (.iteI (.op2 .eq (.op2 (.bit .and .i64) (.op2 (.shr .i64) (.v 0) (.op1 (.wrap .u64) (.v 3))) (.ki (1))) (.ki (1))) (.iteI (.op2 .le (.op1 (.wrap .u64) (.v 2)) (.op1 (.wrap .u64) (.op2 .add (.iteI (.op2 .le (.op1 (.wrap .u64) (.v 2)) (.op1 (.wrap .u64) (.op2 .mul (.ki (2)) (.v 6)))) (.op1 (.wrap .u64) (.op2 .sub (.op1 (.wrap .u64) (.op2 .mul (.ki (2)) (.v 6))) (.op1 (.wrap .u64) (.v 2)))) (.op1 (.wrap .u64) (.op2 .mul (.ki (2)) (.v 6)))) (.op2 .rem (.op1 (.wrap .u64) (.v 1)) (.op1 (.wrap .u64) (.v 2)))))) (.op1 (.wrap .u64) (.op2 .add (.op1 (.wrap .u64) (.op2 .add (.iteI (.op2 .le (.op1 (.wrap .u64) (.v 2)) (.op1 (.wrap .u64) (.op2 .mul (.ki (2)) (.v 6)))) (.op1 (.wrap .u64) (.op2 .add (.op1 (.wrap .u64) (.op2 .mul (.ki (2)) (.v 5))) (.ki (1)))) (.op1 (.wrap .u64) (.op2 .mul (.ki (2)) (.v 5)))) (.op1 (.wrap .u64) (.op2 .quo (.op1 (.wrap .u64) (.v 1)) (.op1 (.wrap .u64) (.v 2)))))) (.ki (1)))) (.op1 (.wrap .u64) (.op2 .add (.iteI (.op2 .le (.op1 (.wrap .u64) (.v 2)) (.op1 (.wrap .u64) (.op2 .mul (.ki (2)) (.v 6)))) (.op1 (.wrap .u64) (.op2 .add (.op1 (.wrap .u64) (.op2 .mul (.ki (2)) (.v 5))) (.ki (1)))) (.op1 (.wrap .u64) (.op2 .mul (.ki (2)) (.v 5)))) (.op1 (.wrap .u64) (.op2 .quo (.op1 (.wrap .u64) (.v 1)) (.op1 (.wrap .u64) (.v 2))))))) (.iteI (.op2 .le (.op1 (.wrap .u64) (.v 2)) (.op1 (.wrap .u64) (.op2 .mul (.ki (2)) (.v 6)))) (.op1 (.wrap .u64) (.op2 .add (.op1 (.wrap .u64) (.op2 .mul (.ki (2)) (.v 5))) (.ki (1)))) (.op1 (.wrap .u64) (.op2 .mul (.ki (2)) (.v 5)))))))
    (.leaf [(I64, (.ki (9223372036854775807))), (I64, (.ki (0)))])
    (.next 0 [(.op1 (.wrap .i64) (.op2 .sub (.v 3) (.ki (1)))), (.iteB (.op2 .eq (.op2 (.bit .and .i64) (.op2 (.shr .i64) (.v 0) (.op1 (.wrap .u64) (.v 3))) (.ki (1))) (.ki (1))) (.op2 .or (.op2 .or (.v 4) (.op2 .le (.ki (4611686018427387904)) (.v 5))) (.op2 .lt (.op1 (.wrap .u64) (.op2 .sub (.ki (9223372036854775807)) (.op1 (.wrap .u64) (.op2 .quo (.op1 (.wrap .u64) (.v 1)) (.op1 (.wrap .u64) (.v 2)))))) (.iteI (.op2 .le (.op1 (.wrap .u64) (.v 2)) (.op1 (.wrap .u64) (.op2 .mul (.ki (2)) (.v 6)))) (.op1 (.wrap .u64) (.op2 .add (.op1 (.wrap .u64) (.op2 .mul (.ki (2)) (.v 5))) (.ki (1)))) (.op1 (.wrap .u64) (.op2 .mul (.ki (2)) (.v 5)))))) (.op2 .or (.v 4) (.op2 .le (.ki (4611686018427387904)) (.v 5)))), (.iteI (.op2 .eq (.op2 (.bit .and .i64) (.op2 (.shr .i64) (.v 0) (.op1 (.wrap .u64) (.v 3))) (.ki (1))) (.ki (1))) (.iteI (.op2 .le (.op1 (.wrap .u64) (.v 2)) (.op1 (.wrap .u64) (.op2 .add (.iteI (.op2 .le (.op1 (.wrap .u64) (.v 2)) (.op1 (.wrap .u64) (.op2 .mul (.ki (2)) (.v 6)))) (.op1 (.wrap .u64) (.op2 .sub (.op1 (.wrap .u64) (.op2 .mul (.ki (2)) (.v 6))) (.op1 (.wrap .u64) (.v 2)))) (.op1 (.wrap .u64) (.op2 .mul (.ki (2)) (.v 6)))) (.op2 .rem (.op1 (.wrap .u64) (.v 1)) (.op1 (.wrap .u64) (.v 2)))))) (.op1 (.wrap .u64) (.op2 .add (.op1 (.wrap .u64) (.op2 .add (.iteI (.op2 .le (.op1 (.wrap .u64) (.v 2)) (.op1 (.wrap .u64) (.op2 .mul (.ki (2)) (.v 6)))) (.op1 (.wrap .u64) (.op2 .add (.op1 (.wrap .u64) (.op2 .mul (.ki (2)) (.v 5))) (.ki (1)))) (.op1 (.wrap .u64) (.op2 .mul (.ki (2)) (.v 5)))) (.op1 (.wrap .u64) (.op2 .quo (.op1 (.wrap .u64) (.v 1)) (.op1 (.wrap .u64) (.v 2)))))) (.ki (1)))) (.op1 (.wrap .u64) (.op2 .add (.iteI (.op2 .le (.op1 (.wrap .u64) (.v 2)) (.op1 (.wrap .u64) (.op2 .mul (.ki (2)) (.v 6)))) (.op1 (.wrap .u64) (.op2 .add (.op1 (.wrap .u64) (.op2 .mul (.ki (2)) (.v 5))) (.ki (1)))) (.op1 (.wrap .u64) (.op2 .mul (.ki (2)) (.v 5)))) (.op1 (.wrap .u64) (.op2 .quo (.op1 (.wrap .u64) (.v 1)) (.op1 (.wrap .u64) (.v 2))))))) (.iteI (.op2 .le (.op1 (.wrap .u64) (.v 2)) (.op1 (.wrap .u64) (.op2 .mul (.ki (2)) (.v 6)))) (.op1 (.wrap .u64) (.op2 .add (.op1 (.wrap .u64) (.op2 .mul (.ki (2)) (.v 5))) (.ki (1)))) (.op1 (.wrap .u64) (.op2 .mul (.ki (2)) (.v 5))))), (.iteI (.op2 .eq (.op2 (.bit .and .i64) (.op2 (.shr .i64) (.v 0) (.op1 (.wrap .u64) (.v 3))) (.ki (1))) (.ki (1))) (.iteI (.op2 .le (.op1 (.wrap .u64) (.v 2)) (.op1 (.wrap .u64) (.op2 .add (.iteI (.op2 .le (.op1 (.wrap .u64) (.v 2)) (.op1 (.wrap .u64) (.op2 .mul (.ki (2)) (.v 6)))) (.op1 (.wrap .u64) (.op2 .sub (.op1 (.wrap .u64) (.op2 .mul (.ki (2)) (.v 6))) (.op1 (.wrap .u64) (.v 2)))) (.op1 (.wrap .u64) (.op2 .mul (.ki (2)) (.v 6)))) (.op2 .rem (.op1 (.wrap .u64) (.v 1)) (.op1 (.wrap .u64) (.v 2)))))) (.op1 (.wrap .u64) (.op2 .sub (.op1 (.wrap .u64) (.op2 .add (.iteI (.op2 .le (.op1 (.wrap .u64) (.v 2)) (.op1 (.wrap .u64) (.op2 .mul (.ki (2)) (.v 6)))) (.op1 (.wrap .u64) (.op2 .sub (.op1 (.wrap .u64) (.op2 .mul (.ki (2)) (.v 6))) (.op1 (.wrap .u64) (.v 2)))) (.op1 (.wrap .u64) (.op2 .mul (.ki (2)) (.v 6)))) (.op2 .rem (.op1 (.wrap .u64) (.v 1)) (.op1 (.wrap .u64) (.v 2))))) (.op1 (.wrap .u64) (.v 2)))) (.op1 (.wrap .u64) (.op2 .add (.iteI (.op2 .le (.op1 (.wrap .u64) (.v 2)) (.op1 (.wrap .u64) (.op2 .mul (.ki (2)) (.v 6)))) (.op1 (.wrap .u64) (.op2 .sub (.op1 (.wrap .u64) (.op2 .mul (.ki (2)) (.v 6))) (.op1 (.wrap .u64) (.v 2)))) (.op1 (.wrap .u64) (.op2 .mul (.ki (2)) (.v 6)))) (.op2 .rem (.op1 (.wrap .u64) (.v 1)) (.op1 (.wrap .u64) (.v 2)))))) (.iteI (.op2 .le (.op1 (.wrap .u64) (.v 2)) (.op1 (.wrap .u64) (.op2 .mul (.ki (2)) (.v 6)))) (.op1 (.wrap .u64) (.op2 .sub (.op1 (.wrap .u64) (.op2 .mul (.ki (2)) (.v 6))) (.op1 (.wrap .u64) (.v 2)))) (.op1 (.wrap .u64) (.op2 .mul (.ki (2)) (.v 6)))))])))
   (.leaf [(I64, (.op1 (.wrap .i64) (.v 5))), (I64, (.ki (0)))]))))))
theorem c68 : compile Go.Proofs.Try.prog [] Go.Proofs.Try.f68 s68.params s68.results = some t68 := by kernel_rfl
def L68 : List (Nat × (List LV → List LV)) := []
def M68 : List (Nat × (List LV → Prop)) := []
theorem h68 : ∀ sg, sg ∈ ([] : List Sig) → ConOk Go.Proofs.Try.prog (ap L68) (apR M68) sg := fun _ h => absurd h (List.not_mem_nil)
/-! tideway/tidewayref01.Cbrt -/
def s69 : Sig := ⟨69, 69, [.col I64], [.col I64]⟩
def t69 : Tr (List (Col × E)) :=
 (.loop 1 2 [(.ki (2097151)), (.ki (0))]
 (.ite (.op2 .lt (.v 2) (.v 1))
  (.next 0 [(.iteI (.op2 .le (.op1 (.wrap .i64) (.op2 .mul (.op1 (.wrap .i64) (.op2 .mul (.op1 (.wrap .i64) (.op2 .quo (.op1 (.wrap .i64) (.op2 .add (.op1 (.wrap .i64) (.op2 .add (.v 2) (.v 1))) (.ki (1)))) (.ki (2)))) (.op1 (.wrap .i64) (.op2 .quo (.op1 (.wrap .i64) (.op2 .add (.op1 (.wrap .i64) (.op2 .add (.v 2) (.v 1))) (.ki (1)))) (.ki (2)))))) (.op1 (.wrap .i64) (.op2 .quo (.op1 (.wrap .i64) (.op2 .add (.op1 (.wrap .i64) (.op2 .add (.v 2) (.v 1))) (.ki (1)))) (.ki (2)))))) (.v 0)) (.v 1) (.op1 (.wrap .i64) (.op2 .sub (.op1 (.wrap .i64) (.op2 .quo (.op1 (.wrap .i64) (.op2 .add (.op1 (.wrap .i64) (.op2 .add (.v 2) (.v 1))) (.ki (1)))) (.ki (2)))) (.ki (1))))), (.iteI (.op2 .le (.op1 (.wrap .i64) (.op2 .mul (.op1 (.wrap .i64) (.op2 .mul (.op1 (.wrap .i64) (.op2 .quo (.op1 (.wrap .i64) (.op2 .add (.op1 (.wrap .i64) (.op2 .add (.v 2) (.v 1))) (.ki (1)))) (.ki (2)))) (.op1 (.wrap .i64) (.op2 .quo (.op1 (.wrap .i64) (.op2 .add (.op1 (.wrap .i64) (.op2 .add (.v 2) (.v 1))) (.ki (1)))) (.ki (2)))))) (.op1 (.wrap .i64) (.op2 .quo (.op1 (.wrap .i64) (.op2 .add (.op1 (.wrap .i64) (.op2 .add (.v 2) (.v 1))) (.ki (1)))) (.ki (2)))))) (.v 0)) (.op1 (.wrap .i64) (.op2 .quo (.op1 (.wrap .i64) (.op2 .add (.op1 (.wrap .i64) (.op2 .add (.v 2) (.v 1))) (.ki (1)))) (.ki (2)))) (.v 2))])
  (.leaf [(I64, (.v 2))])))
theorem c69 : compile Go.Proofs.Try.prog [] Go.Proofs.Try.f69 s69.params s69.results = some t69 := by kernel_rfl
def L69 : List (Nat × (List LV → List LV)) := []
def M69 : List (Nat × (List LV → Prop)) := []
theorem h69 : ∀ sg, sg ∈ ([] : List Sig) → ConOk Go.Proofs.Try.prog (ap L69) (apR M69) sg := fun _ h => absurd h (List.not_mem_nil)
/-! tideway/seq.Cbrt -/
def s124 : Sig := ⟨124, 124, [.col I64], [.col I64]⟩
def t124 : Tr (List (Col × E)) :=
 (.loop 1 2 [(.ki (0)), (.ki (0))]
 (.ite (.op2 .lt (.v 1) (.ki (21)))
  (.item (.need (.op2 .le (.ki (0)) (.op1 (.wrap .i64) (.op2 .sub (.ki (20)) (.v 1)))))
  (.next 0 [(.op1 (.wrap .i64) (.op2 .add (.v 1) (.ki (1)))), (.iteI (.op2 .le (.op1 (.wrap .i64) (.op2 .mul (.op1 (.wrap .i64) (.op2 .mul (.op2 (.bit .or .i64) (.v 2) (.op1 (.wrap .i64) (.op2 (.shl .i64) (.ki (1)) (.op1 (.wrap .i64) (.op2 .sub (.ki (20)) (.v 1)))))) (.op2 (.bit .or .i64) (.v 2) (.op1 (.wrap .i64) (.op2 (.shl .i64) (.ki (1)) (.op1 (.wrap .i64) (.op2 .sub (.ki (20)) (.v 1)))))))) (.op2 (.bit .or .i64) (.v 2) (.op1 (.wrap .i64) (.op2 (.shl .i64) (.ki (1)) (.op1 (.wrap .i64) (.op2 .sub (.ki (20)) (.v 1)))))))) (.v 0)) (.op2 (.bit .or .i64) (.v 2) (.op1 (.wrap .i64) (.op2 (.shl .i64) (.ki (1)) (.op1 (.wrap .i64) (.op2 .sub (.ki (20)) (.v 1)))))) (.v 2))]))
  (.leaf [(I64, (.v 2))])))
theorem c124 : compile Go.Proofs.Try.prog [] Go.Proofs.Try.f124 s124.params s124.results = some t124 := by kernel_rfl
def L124 : List (Nat × (List LV → List LV)) := []
def M124 : List (Nat × (List LV → Prop)) := []
theorem h124 : ∀ sg, sg ∈ ([] : List Sig) → ConOk Go.Proofs.Try.prog (ap L124) (apR M124) sg := fun _ h => absurd h (List.not_mem_nil)
end Go.Proofs.Ythhnnfmfeofknaa.Sy
