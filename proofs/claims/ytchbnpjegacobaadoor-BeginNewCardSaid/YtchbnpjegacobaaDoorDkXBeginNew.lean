/-
  The law BeginNew on the given program. Conditions: that the table of kinds reads as the text has it.
-/
import Derived.Test.YtchbnpjegacobaaDoorDkBeginNew
import Derived.Test.YtchbnpjegacobaaDoorDkT
set_option linter.unusedVariables false
namespace Go.Proofs.YtchbnpjegacobaaDoor
open Go Go.Vcg
theorem fok_BeginNew : FOK Tryd.prog (tb glM tabN) n_reredoskeep_BeginNew sp_BeginNew := FOK.of tabN_ok f_reredoskeep_BeginNew c_reredoskeep_BeginNew (v_BeginNew rfl rfl rfl rfl rfl)
end Go.Proofs.YtchbnpjegacobaaDoor
