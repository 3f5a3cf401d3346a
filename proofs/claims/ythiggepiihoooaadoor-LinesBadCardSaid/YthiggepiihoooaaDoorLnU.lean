/-
  The functions that writing and reading lines reach are what the specifications say, for the given program. Conditions: that the variables of the library and the two word lists hold what the text lays.
-/
import Derived.Test.YthiggepiihoooaaDoorLnG
import Derived.Test.YthiggepiihoooaaDoorLnM
import Derived.Test.YthiggepiihoooaaDoorLnF
import Derived.Test.YthiggepiihoooaaDoorLnS
import Derived.Test.YthiggepiihoooaaDoorCs3
set_option linter.unusedVariables false
namespace Go.Proofs.YthiggepiihoooaaDoor
open Go Go.Vcg Go.RowKit

section
variable {X : Nat → Prop} {w : World}
theorem strint_of {vs : List Value} {s : List UInt8} {k : IntKind} {n : Int} (h : RdL X w none [.str s, .int k n] vs) : vs = [.string ⟨s.toArray⟩, .int k n] := by
  simp only [RdL, Rd] at h
  obtain ⟨v, r, rfl, rfl, v2, r2, rfl, rfl, rfl⟩ := h
  rfl
end
theorem fok_IndexB {gl : Nat → D} {l : List (Nat × Sp)} : FOK Tryd.prog (tb gl l) 50 sp_IndexB := by
  unfold FOK
  show ∀ (X : Nat → Prop) (w : World) (args : Array Value) (ds : List D), _
  intro X w args ds hX hgl hrd ⟨s, c, hds, hs⟩
  subst hds
  have hargs := arr_of (strint_of hrd)
  subst hargs
  refine (Tryd.strings_IndexByte ⟨s.toArray⟩ c w).mono ?_
  rintro e w' ⟨rfl, rfl⟩
  exact ⟨_, rfl, by simp only [sp_IndexB, Rd], Ext.refl _ _⟩
theorem below_drew (w : World) (k : Nat) : Below w.heap.size w (w.drewN k) := ⟨rfl, rfl, rfl, by simp [World.drewN], fun j hj => by simp [World.drewN]⟩
theorem fok_Cut {gl : Nat → D} {m : Int} (hm0 : gl 2 = .ad 1 [[.int .i64 m]] 0 0) {l : List (Nat × Sp)} : FOK Tryd.prog (tb gl l) 26 sp_Cut := by
  unfold FOK
  show ∀ (X : Nat → Prop) (w : World) (args : Array Value) (ds : List D), _
  intro X w args ds hX hgl hrd ⟨s, c, hds, hs⟩
  subst hds
  have hargs := arr_of (str2_of hrd)
  subst hargs
  have h0 := hgl 2
  have e0 : (tb gl l).gl 2 = .ad 1 [[.int .i64 m]] 0 0 := hm0
  rw [e0] at h0
  obtain ⟨v, hv, hr⟩ := cell_ad h0
  simp only [Rd] at hr
  subst hr
  have hsz : (⟨s.toArray⟩ : ByteArray).size = s.length := by simp [ByteArray.size]
  refine (Tryd.strings_Cut ⟨s.toArray⟩ ⟨[c].toArray⟩ m w (by rw [hsz]; omega) hv).mono ?_
  rintro e w' ⟨rfl, n, rfl⟩
  refine ⟨_, rfl, ?_, Ext.of_below (below_drew w n) _⟩
  have hF : sp_Cut.F [.str s, .str [c]] = .tup [.str (Lib.cut s [c]).1, .str (Lib.cut s [c]).2.1, .bool (Lib.cut s [c]).2.2] := rfl
  rw [hF]
  simp only [Rd, RdL]
  exact ⟨_, rfl, _, _, rfl, rfl, _, _, rfl, rfl, _, _, rfl, rfl, rfl⟩

def glL (m : Int) : Nat → D := fun i => if i = 0 then .ad 1 (wordsL.map wc) 0 0 else if i = 1 then .ad 1 (callsL.map wc) 0 0 else if i = 2 then .ad 1 [[.int .i64 m]] 0 0 else if i = 3 then .xad pow10C else if i = 4 then .ad 1 [[.err none]] 0 0 else if i = 5 then .ad 1 [[.err none]] 0 0 else .any
theorem k_lib {n : Nat} (hn : n < 1000000) : ∀ g, kf g = n → g = n := kfOf_lt hn
theorem k_libh {n : Nat} (hn : n < 1000000) : ∀ g, kf g = 1000000 + n → g = n := kfOf_ge (hs := heapFns) (ns := newFns) hn (by decide) (by decide)
variable (m : Int)
noncomputable def tabL0 : List (Nat × Sp) := [(n_strings_Builder_String, (sp_BString 58 5)), (n_strings_Builder_WriteByte, (sp_WriteByte 58 5)), (n_strings_Builder_WriteString, (sp_WriteString 58 5)), (50, sp_IndexB), (26, sp_Cut), (37, sp_Split), (49, sp_Atoi), (20, sp_Itoa)]
set_option maxRecDepth 10000 in
theorem tabL0_ok : TbOK Tryd.prog kf (tb (glL m) tabL0) :=
  ((((((((TbOK.nil : TbOK Tryd.prog kf (tb (glL m) [])).consG
    (k_lib (n := 20) (by decide)) (Vcg.enters_of Tryd.func20 (by kernel_rfl) (by kernel_rfl)) (fok_Itoa rfl) (.inl rfl)).consG
    (k_lib (n := 49) (by decide)) (Vcg.enters_of Tryd.func49 (by kernel_rfl) (by kernel_rfl)) (fok_Atoi rfl rfl) (.inl rfl)).consG
    (k_lib (n := 37) (by decide)) (Vcg.enters_of Tryd.func37 (by kernel_rfl) (by kernel_rfl)) (fok_Split (m := m) rfl) (.inl rfl)).consG
    (k_lib (n := 26) (by decide)) (Vcg.enters_of Tryd.func26 (by kernel_rfl) (by kernel_rfl)) (fok_Cut (m := m) rfl) (.inl rfl)).consG
    (k_lib (n := 50) (by decide)) (Vcg.enters_of Tryd.func50 (by kernel_rfl) (by kernel_rfl)) fok_IndexB (.inl rfl)).consG
    (k_libh (n := 18) (by decide)) (Vcg.enters_of Tryd.func18 (by kernel_rfl) (by kernel_rfl)) fok_WriteString (.inr (.inl rfl))).consG
    (k_libh (n := 23) (by decide)) (Vcg.enters_of Tryd.func23 (by kernel_rfl) (by kernel_rfl)) fok_WriteByte (.inr (.inl rfl))).consG
    (k_libh (n := 24) (by decide)) (Vcg.enters_of Tryd.func24 (by kernel_rfl) (by kernel_rfl)) fok_BString (.inr (.inl rfl))
noncomputable def tabL : List (Nat × Sp) := [(n_lines_Read, sp_LRead), (n_lines_one, sp_lone), (n_lines_taker_call, sp_tcall), (n_lines_taker_text, sp_text), (n_lines_taker_number, sp_num), (n_lines_taker_next, sp_next), (n_slices_Index_string_string, sp_IndexW), (n_lines_Show, sp_Show), (n_lines_asked, sp_asked), (n_lines_hex, sp_hex), (n_lines_values, sp_values), (n_reredoskeep_sameActs, sp_sameActs), (n_reredoskeep_sameInts, sp_sameInts), (n_reredoskeep_Config, sp_Config), (n_reredoskeep_two, sp_two), (n_lines_Check, sp_LCheck), (n_lines_call, sp_lcall), (n_lines_bare, sp_bare), (n_lines_numbers, sp_numbers), (n_slices_ContainsFunc_int_int, sp_ContI), (n_slices_IndexFunc_int_int, sp_IndexI), (n_lines_numbers_1, sp_num1), (n_label_Check, sp_Check), (n_label_one, sp_one), (n_reredoskeep_Acts, sp_Acts), (n_reredoskeep_typed, sp_typed), (n_reredoskeep_ask, sp_ask), (n_reredoskeep_dec, sp_dec), (n_reredoskeep_Lab, sp_Lab), (n_reredoskeep_picked, sp_picked)] ++ tabL0
set_option maxRecDepth 10000 in
theorem tabL_ok : TbOK Tryd.prog kf (tb (glL m) tabL) :=
  ((((((((((((((((((((((((((((((tabL0_ok m).cons
    k_reredoskeep_picked f_reredoskeep_picked e_reredoskeep_picked c_reredoskeep_picked v_picked).cons
    k_reredoskeep_Lab f_reredoskeep_Lab e_reredoskeep_Lab c_reredoskeep_Lab (v_Lab rfl)).cons
    k_reredoskeep_dec f_reredoskeep_dec e_reredoskeep_dec c_reredoskeep_dec v_dec).cons
    k_reredoskeep_ask f_reredoskeep_ask e_reredoskeep_ask c_reredoskeep_ask (v_ask rfl)).cons
    k_reredoskeep_typed f_reredoskeep_typed e_reredoskeep_typed c_reredoskeep_typed (v_typed rfl rfl)).cons
    k_reredoskeep_Acts f_reredoskeep_Acts e_reredoskeep_Acts c_reredoskeep_Acts (v_Acts rfl rfl rfl)).cons
    k_label_one f_label_one e_label_one c_label_one v_one).cons
    k_label_Check f_label_Check e_label_Check c_label_Check (v_Check rfl)).cons
    k_lines_numbers_1 f_lines_numbers_1 e_lines_numbers_1 c_lines_numbers_1 v_num1).cons
    k_slices_IndexFunc_int_int f_slices_IndexFunc_int_int e_slices_IndexFunc_int_int c_slices_IndexFunc_int_int (v_IndexI rfl)).cons
    k_slices_ContainsFunc_int_int f_slices_ContainsFunc_int_int e_slices_ContainsFunc_int_int c_slices_ContainsFunc_int_int (v_ContI rfl)).cons
    k_lines_numbers f_lines_numbers e_lines_numbers c_lines_numbers (v_numbers rfl)).cons
    k_lines_bare f_lines_bare e_lines_bare c_lines_bare v_bare).cons
    k_lines_call f_lines_call e_lines_call c_lines_call v_lcall).cons
    k_lines_Check f_lines_Check e_lines_Check c_lines_Check (v_LCheck rfl rfl rfl rfl)).cons
    k_reredoskeep_two f_reredoskeep_two e_reredoskeep_two c_reredoskeep_two (v_two rfl)).cons
    k_reredoskeep_Config f_reredoskeep_Config e_reredoskeep_Config c_reredoskeep_Config (v_Config rfl rfl)).cons
    k_reredoskeep_sameInts f_reredoskeep_sameInts e_reredoskeep_sameInts c_reredoskeep_sameInts v_sameInts).cons
    k_reredoskeep_sameActs f_reredoskeep_sameActs e_reredoskeep_sameActs c_reredoskeep_sameActs (v_sameActs rfl)).cons
    k_lines_values f_lines_values e_lines_values c_lines_values v_values).cons
    k_lines_hex f_lines_hex e_lines_hex c_lines_hex v_hex).cons
    k_lines_asked f_lines_asked e_lines_asked c_lines_asked (v_asked rfl rfl)).cons
    k_lines_Show f_lines_Show e_lines_Show c_lines_Show (v_Show rfl rfl rfl rfl rfl rfl rfl rfl rfl rfl)).cons
    k_slices_Index_string_string f_slices_Index_string_string e_slices_Index_string_string c_slices_Index_string_string v_IndexW).cons
    k_lines_taker_next f_lines_taker_next e_lines_taker_next c_lines_taker_next v_next).cons
    k_lines_taker_number f_lines_taker_number e_lines_taker_number c_lines_taker_number (v_num rfl rfl rfl)).cons
    k_lines_taker_text f_lines_taker_text e_lines_taker_text c_lines_taker_text (v_text rfl rfl)).cons
    k_lines_taker_call f_lines_taker_call e_lines_taker_call c_lines_taker_call (v_tcall rfl rfl rfl rfl)).cons
    k_lines_one f_lines_one e_lines_one c_lines_one (v_lone rfl rfl rfl rfl rfl rfl rfl)).cons
    k_lines_Read f_lines_Read e_lines_Read c_lines_Read (v_LRead rfl rfl rfl rfl)
end Go.Proofs.YthiggepiihoooaaDoor
