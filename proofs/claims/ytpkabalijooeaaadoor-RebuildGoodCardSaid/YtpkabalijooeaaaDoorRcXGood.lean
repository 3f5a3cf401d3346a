/-
  RebuildGood does what its specification says, for the given program. Conditions: that the table of kinds reads as the text has it.
-/
import Derived.Test.YtpkabalijooeaaaDoorRcT
namespace Go.Proofs.YtpkabalijooeaaaDoor
open Go Go.Vcg
theorem fok_RebuildGood : FOK Tryd.prog (tb glR tabR) n_reredoskeep_RebuildGood sp_RebuildGood := FOK.of tabR_ok f_reredoskeep_RebuildGood c_reredoskeep_RebuildGood (v_RebuildGood rfl rfl rfl rfl rfl rfl)
end Go.Proofs.YtpkabalijooeaaaDoor
