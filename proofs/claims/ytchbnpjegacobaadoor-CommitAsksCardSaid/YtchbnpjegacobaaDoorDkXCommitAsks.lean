/-
  The law CommitAsks on the given program. Conditions: that the table of kinds reads as the text has it.
-/
import Derived.Test.YtchbnpjegacobaaDoorDkCommitAsks
import Derived.Test.YtchbnpjegacobaaDoorDkT3
set_option linter.unusedVariables false
namespace Go.Proofs.YtchbnpjegacobaaDoor
open Go Go.Vcg
theorem fok_CommitAsks : FOK Tryd.prog (tb glM tabN3) n_reredoskeep_CommitAsks sp_CommitAsks := FOK.of tabN3_ok f_reredoskeep_CommitAsks c_reredoskeep_CommitAsks (v_CommitAsks rfl rfl rfl rfl rfl)
end Go.Proofs.YtchbnpjegacobaaDoor
