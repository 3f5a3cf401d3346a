/-
  RebuildDesk does what its specification says, for the given program. Conditions: that the table of kinds reads as the text has it.
-/
import Derived.Test.YtpkabalijooeaaaDoorRcT
namespace Go.Proofs.YtpkabalijooeaaaDoor
open Go Go.Vcg
theorem fok_RebuildDesk : FOK Tryd.prog (tb glR tabR) n_reredoskeep_RebuildDesk sp_RebuildDesk := FOK.of tabR_ok f_reredoskeep_RebuildDesk c_reredoskeep_RebuildDesk (v_RebuildDesk rfl rfl rfl rfl rfl)
end Go.Proofs.YtpkabalijooeaaaDoor
