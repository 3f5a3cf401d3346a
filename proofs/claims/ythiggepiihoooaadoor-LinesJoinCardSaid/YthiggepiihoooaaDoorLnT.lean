/-
  The functions that writing lines reaches are what the specifications say, for the given program. Conditions: that the variables of the library and the two word lists hold what the text lays.
-/
import Derived.Test.YthiggepiihoooaaDoorLnJ
import Derived.Test.YthiggepiihoooaaDoorLnF
import Derived.Test.YthiggepiihoooaaDoorLnS
import Derived.Test.YthiggepiihoooaaDoorCs3
set_option linter.unusedVariables false
namespace Go.Proofs.YthiggepiihoooaaDoor
open Go Go.Vcg

def glL (m : Int) : Nat → D := fun i => if i = 0 then .ad 1 (wordsL.map wc) 0 0 else if i = 1 then .ad 1 (callsL.map wc) 0 0 else if i = 2 then .ad 1 [[.int .i64 m]] 0 0 else if i = 3 then .xad pow10C else if i = 4 then .ad 1 [[.err none]] 0 0 else if i = 5 then .ad 1 [[.err none]] 0 0 else .any
def glJ : Nat → D := fun i => if i = 0 then .ad 1 (wordsL.map wc) 0 0 else if i = 1 then .ad 1 (callsL.map wc) 0 0 else if i = 3 then .xad pow10C else .any
theorem k_lib {n : Nat} (hn : n < 1000000) : ∀ g, kf g = n → g = n := kfOf_lt hn
theorem k_libh {n : Nat} (hn : n < 1000000) : ∀ g, kf g = 1000000 + n → g = n := kfOf_ge (hs := heapFns) (ns := newFns) hn (by decide) (by decide)
noncomputable def tabL0 : List (Nat × Sp) := [(n_strings_Builder_String, (sp_BString 58 5)), (n_strings_Builder_WriteByte, (sp_WriteByte 58 5)), (n_strings_Builder_WriteString, (sp_WriteString 58 5)), (n_strconv_Itoa, sp_Itoa)]
noncomputable def tabL : List (Nat × Sp) := [(n_lines_Show, sp_Show), (n_lines_asked, sp_asked), (n_lines_hex, sp_hex), (n_lines_values, sp_values), (n_reredoskeep_two, sp_two), (n_lines_Check, sp_LCheck), (n_lines_call, sp_lcall), (n_lines_bare, sp_bare), (n_lines_numbers, sp_numbers), (n_slices_ContainsFunc_int_int, sp_ContI), (n_slices_IndexFunc_int_int, sp_IndexI), (n_lines_numbers_1, sp_num1), (n_label_Check, sp_Check), (n_label_one, sp_one), (n_reredoskeep_Acts, sp_Acts), (n_reredoskeep_typed, sp_typed), (n_reredoskeep_ask, sp_ask), (n_reredoskeep_dec, sp_dec), (n_reredoskeep_Lab, sp_Lab), (n_reredoskeep_picked, sp_picked)] ++ tabL0
set_option maxRecDepth 10000 in
theorem tabL0_ok (gl : Nat → D) (hp : gl 3 = .xad pow10C) : TbOK Tryd.prog kf (tb gl tabL0) :=
  ((((TbOK.nil : TbOK Tryd.prog kf (tb gl [])).consG
    (k_lib (n := 20) (by decide)) (Vcg.enters_of Tryd.func20 (by kernel_rfl) (by kernel_rfl)) (fok_Itoa hp) (.inl rfl)).consG
    (k_libh (n := 18) (by decide)) (Vcg.enters_of Tryd.func18 (by kernel_rfl) (by kernel_rfl)) fok_WriteString (.inr (.inl rfl))).consG
    (k_libh (n := 23) (by decide)) (Vcg.enters_of Tryd.func23 (by kernel_rfl) (by kernel_rfl)) fok_WriteByte (.inr (.inl rfl))).consG
    (k_libh (n := 24) (by decide)) (Vcg.enters_of Tryd.func24 (by kernel_rfl) (by kernel_rfl)) fok_BString (.inr (.inl rfl))
set_option maxRecDepth 10000 in
theorem tabL_ok (gl : Nat → D) (hp : gl 3 = .xad pow10C) (hw : gl 0 = .ad 1 (wordsL.map wc) 0 0) (hc : gl 1 = .ad 1 (callsL.map wc) 0 0) : TbOK Tryd.prog kf (tb gl tabL) :=
  ((((((((((((((((((((tabL0_ok gl hp).cons
    k_reredoskeep_picked f_reredoskeep_picked e_reredoskeep_picked c_reredoskeep_picked v_picked).cons
    k_reredoskeep_Lab f_reredoskeep_Lab e_reredoskeep_Lab c_reredoskeep_Lab (v_Lab rfl)).cons
    k_reredoskeep_dec f_reredoskeep_dec e_reredoskeep_dec c_reredoskeep_dec v_dec).cons
    k_reredoskeep_ask f_reredoskeep_ask e_reredoskeep_ask c_reredoskeep_ask (v_ask rfl)).cons
    k_reredoskeep_typed f_reredoskeep_typed e_reredoskeep_typed c_reredoskeep_typed (v_typed rfl rfl)).cons
    k_reredoskeep_Acts f_reredoskeep_Acts e_reredoskeep_Acts c_reredoskeep_Acts (v_Acts rfl rfl rfl)).cons
    k_label_one f_label_one e_label_one c_label_one v_one).cons
    k_label_Check f_label_Check e_label_Check c_label_Check (v_Check rfl)).cons
    k_lines_numbers_1 f_lines_numbers_1 e_lines_numbers_1 c_lines_numbers_1 v_num1).cons
    k_slices_IndexFunc_int_int f_slices_IndexFunc_int_int e_slices_IndexFunc_int_int c_slices_IndexFunc_int_int (v_IndexI rfl)).cons
    k_slices_ContainsFunc_int_int f_slices_ContainsFunc_int_int e_slices_ContainsFunc_int_int c_slices_ContainsFunc_int_int (v_ContI rfl)).cons
    k_lines_numbers f_lines_numbers e_lines_numbers c_lines_numbers (v_numbers rfl)).cons
    k_lines_bare f_lines_bare e_lines_bare c_lines_bare v_bare).cons
    k_lines_call f_lines_call e_lines_call c_lines_call v_lcall).cons
    k_lines_Check f_lines_Check e_lines_Check c_lines_Check (v_LCheck rfl rfl rfl rfl)).cons
    k_reredoskeep_two f_reredoskeep_two e_reredoskeep_two c_reredoskeep_two (v_two rfl)).cons
    k_lines_values f_lines_values e_lines_values c_lines_values v_values).cons
    k_lines_hex f_lines_hex e_lines_hex c_lines_hex v_hex).cons
    k_lines_asked f_lines_asked e_lines_asked c_lines_asked (v_asked hc rfl)).cons
    k_lines_Show f_lines_Show e_lines_Show c_lines_Show (v_Show hw rfl rfl rfl rfl rfl rfl rfl rfl rfl)
theorem fok_LinesJoin : FOK Tryd.prog (tb glJ tabL) n_reredoskeep_LinesJoin sp_LinesJoin := FOK.of (tabL_ok glJ rfl rfl rfl) f_reredoskeep_LinesJoin c_reredoskeep_LinesJoin (v_LinesJoin rfl rfl rfl)
end Go.Proofs.YthiggepiihoooaaDoor
