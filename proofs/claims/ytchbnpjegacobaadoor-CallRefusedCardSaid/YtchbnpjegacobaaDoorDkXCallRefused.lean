/-
  The law CallRefused on the given program. Conditions: that the table of kinds reads as the text has it.
-/
import Derived.Test.YtchbnpjegacobaaDoorDkCallRefused
import Derived.Test.YtchbnpjegacobaaDoorDkT
set_option linter.unusedVariables false
namespace Go.Proofs.YtchbnpjegacobaaDoor
open Go Go.Vcg
theorem fok_CallRefused : FOK Tryd.prog (tb glM tabN) n_reredoskeep_CallRefused sp_CallRefused := FOK.of tabN_ok f_reredoskeep_CallRefused c_reredoskeep_CallRefused (v_CallRefused rfl rfl rfl rfl rfl)
end Go.Proofs.YtchbnpjegacobaaDoor
