/-
  The function of the law DeskGood as the language of YtchbnpjegacobaaDoorVcgA has it, printed by program, with its certificate. No conditions.
-/
import Derived.Test.YtchbnpjegacobaaDoorIr
set_option linter.unusedVariables false
namespace Go.Proofs.YtchbnpjegacobaaDoor
open Go Go.Vcg
def ir_reredoskeep_DeskGood : IFn := (.mk 33 (.seq (.reg [(.mk (some 6) none (.mov (.c (.bool false))))]) (.seq (.reg [(.mk (some 9) none (.mov (.t 0))), (.mk (some 10) none (.call n_reredoskeep_two [(.t 9)])), (.mk (some 7) none (.alloc [(.int .i64 0), (.nl 2), (.int .i64 0)])), (.mk none none (.store 3 (.t 7) (.t 10)))]) (.seq (.alt [[(.mk (some 11) none (.load 3 true (.t 7))), (.mk (some 12) none (.mov (.t 2))), (.mk (some 13) none (.faddr 0 (.t 7))), (.mk (some 14) none (.load 1 false (.t 13))), (.mk (some 15) none (.call n_reredoskeep_picked [(.t 12), (.t 14)])), (.mk (some 16) none (.mov (.t 1))), (.mk (some 17) none (.call n_reredoskeep_Desk [(.t 11), (.c (.int .i64 1)), (.t 15), (.t 16), (.c (.int .i64 40))])), (.mk (some 8) none (.alloc [(.int .i64 0), (.nl 6)])), (.mk none none (.store 2 (.t 8) (.t 17)))]]) (.seq (.reg [(.mk (some 18) none (.load 3 true (.t 7))), (.mk (some 19) none (.load 2 true (.t 8))), (.mk (some 20) none (.call n_coord_Check [(.t 18), (.t 19)])), (.mk (some 21) none (.bin .eql (.t 20) (.c (.int .i64 0)))), (.mk (some 22) none (.mov (.t 21))), (.mk (some 23) (some (22, true)) (.load 3 true (.t 7))), (.mk (some 24) (some (22, true)) (.build [(.int .i64 0), (.nl 6)] [])), (.mk (some 25) (some (22, true)) (.call n_coord_Check [(.t 23), (.t 24)])), (.mk (some 26) (some (22, true)) (.bin .eql (.t 25) (.c (.int .i64 9)))), (.mk (some 27) none (.pick (.t 22) (.t 26) (.c (.bool false)))), (.mk (some 28) none (.mov (.t 27))), (.mk (some 29) (some (28, true)) (.faddr 0 (.t 8))), (.mk (some 30) (some (28, true)) (.load 1 false (.t 29))), (.mk (some 31) (some (28, true)) (.bin .gtr (.t 30) (.c (.int .i64 0)))), (.mk (some 32) none (.pick (.t 28) (.t 31) (.c (.bool false)))), (.mk (some 6) none (.mov (.t 32)))]) .ret)))) [(.tmp 6)])
set_option maxRecDepth 1000000
theorem c_reredoskeep_DeskGood : cFn Tryd.prog kf Tryd.f3 = some ir_reredoskeep_DeskGood.er := by kernel_rfl
theorem f_reredoskeep_DeskGood : Tryd.prog.funcs[3]? = some Tryd.f3 := Tryd.func3
theorem e_reredoskeep_DeskGood : Enters Tryd.prog 3 := enters_of f_reredoskeep_DeskGood (by kernel_rfl) (by kernel_rfl)
theorem k_reredoskeep_DeskGood : ∀ g, kf g = n_reredoskeep_DeskGood → g = 3 := kfOf_lt (hs := heapFns) (ns := newFns) (f := 3) (by decide)
end Go.Proofs.YtchbnpjegacobaaDoor
