/-
  RebuildOn does what its specification says, for the given program. Conditions: that the table of kinds reads as the text has it.
-/
import Derived.Test.YtpkabalijooeaaaDoorRcT
namespace Go.Proofs.YtpkabalijooeaaaDoor
open Go Go.Vcg
theorem fok_RebuildOn : FOK Tryd.prog (tb glR tabR) n_reredoskeep_RebuildOn sp_RebuildOn := FOK.of tabR_ok f_reredoskeep_RebuildOn c_reredoskeep_RebuildOn (v_RebuildOn rfl rfl rfl rfl rfl)
end Go.Proofs.YtpkabalijooeaaaDoor
