/-
  The law DoubtsTold on the given program. Conditions: that the table of kinds reads as the text has it.
-/
import Derived.Test.YtchbnpjegacobaaDoorDkDoubtsTold
import Derived.Test.YtchbnpjegacobaaDoorDkT
set_option linter.unusedVariables false
namespace Go.Proofs.YtchbnpjegacobaaDoor
open Go Go.Vcg
theorem fok_DoubtsTold : FOK Tryd.prog (tb glM tabN) n_reredoskeep_DoubtsTold sp_DoubtsTold := FOK.of tabN_ok f_reredoskeep_DoubtsTold c_reredoskeep_DoubtsTold (v_DoubtsTold rfl rfl rfl rfl rfl)
end Go.Proofs.YtchbnpjegacobaaDoor
