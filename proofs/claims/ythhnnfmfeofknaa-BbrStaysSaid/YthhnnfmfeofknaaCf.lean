/-
  Contracts of functions, printed by gen2.py from the trees that the evaluator finds: each function's tree, that the kernel finds the same, and the contract.
-/
import Derived.Test.YthhnnfmfeofknaaCe
namespace Go.Proofs.Ythhnnfmfeofknaa.Sy
open Go Go.RowKit
set_option linter.unusedSimpArgs false
set_option linter.unusedVariables false
/-! tideway/seq.MulDiv -/
def s90 : Sig := ⟨90, 90, [.col I64, .col I64, .col I64], [.col I64, .col I64]⟩
def t90 : Tr (List (Col × E)) :=
 (.ite (.op2 .or (.op2 .or (.op2 .lt (.v 0) (.ki (0))) (.op2 .lt (.v 1) (.ki (0)))) (.op2 .le (.v 2) (.ki (0))))
 (.leaf [(I64, (.ki (0))), (I64, (.ki (2)))])
 (.item (.bind 111 [(.op1 (.wrap .u64) (.v 0)), (.op1 (.wrap .u64) (.v 1))] 3 2)
 (.item (.pre (.kb true) 111 [(.op1 (.wrap .u64) (.v 0)), (.op1 (.wrap .u64) (.v 1))])
 (.ite (.op2 .le (.op1 (.wrap .u64) (.v 2)) (.v 3))
  (.leaf [(I64, (.ki (9223372036854775807))), (I64, (.ki (0)))])
  (.item (.bind 112 [(.v 3), (.v 4), (.op1 (.wrap .u64) (.v 2))] 5 2)
  (.item (.pre (.kb true) 112 [(.v 3), (.v 4), (.op1 (.wrap .u64) (.v 2))])
  (.leaf [(I64, (.op1 (.wrap .i64) (.op2 .mn (.v 5) (.ki (9223372036854775807))))), (I64, (.ki (0)))])))))))
theorem c90 : compile Go.Proofs.Try.prog [s111, s112] Go.Proofs.Try.f90 s90.params s90.results = some t90 := by kernel_rfl
def L90 : List (Nat × (List LV → List LV)) := [(111, F111), (112, F112)]
def M90 : List (Nat × (List LV → Prop)) := [(111, R111), (112, R112)]
theorem h90 : ∀ sg, sg ∈ [s111, s112] → ConOk Go.Proofs.Try.prog (ap L90) (apR M90) sg := by
  intro sg h
  simp only [List.mem_cons, List.not_mem_nil, or_false] at h
  rcases h with rfl | rfl
  · exact k111.to rfl rfl
  · exact k112.to rfl rfl
end Go.Proofs.Ythhnnfmfeofknaa.Sy
