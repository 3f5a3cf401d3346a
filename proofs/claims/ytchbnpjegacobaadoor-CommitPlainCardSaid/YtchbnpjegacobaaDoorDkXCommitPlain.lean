/-
  The law CommitPlain on the given program. Conditions: that the table of kinds reads as the text has it.
-/
import Derived.Test.YtchbnpjegacobaaDoorDkCommitPlain
import Derived.Test.YtchbnpjegacobaaDoorDkT3
set_option linter.unusedVariables false
namespace Go.Proofs.YtchbnpjegacobaaDoor
open Go Go.Vcg
theorem fok_CommitPlain : FOK Tryd.prog (tb glM tabN3) n_reredoskeep_CommitPlain sp_CommitPlain := FOK.of tabN3_ok f_reredoskeep_CommitPlain c_reredoskeep_CommitPlain (v_CommitPlain rfl rfl rfl rfl)
end Go.Proofs.YtchbnpjegacobaaDoor
