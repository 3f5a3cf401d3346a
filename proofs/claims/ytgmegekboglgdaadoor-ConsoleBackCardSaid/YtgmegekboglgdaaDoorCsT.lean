/-
  The functions of the console are what the specifications say, for the given program. Conditions: that the variables of the library hold what the text lays.
-/
import Derived.Test.YtgmegekboglgdaaDoorCs3
import Derived.Test.YtgmegekboglgdaaDoorCs5
set_option linter.unusedVariables false
namespace Go.Proofs.YtgmegekboglgdaaDoor
open Go Go.Vcg

/-- What a plain function is does not hang on the table. -/
theorem FOK_gl {P : Program} {T T' : Tb} {f : Nat} {sp : Sp} (h : FOK P T f sp) (hx : sp.hx = none) (hg : T'.gl = T.gl) : FOK P T' f sp := by
  unfold FOK at h ⊢
  rw [hx] at h ⊢
  simp only at h ⊢
  rw [hg]
  exact h
variable (m : Int)
theorem k_lib {n : Nat} (hn : n < 1000000) : ∀ g, kf g = n → g = n := kfOf_lt hn
noncomputable def tab0 : List (Nat × Sp) := [(12, sp_Atoi), (13, sp_Itoa), (8, sp_Split), (n_reredoskeep_picked, sp_picked)]
set_option maxRecDepth 10000 in
theorem tab0_ok : TbOK Tryd.prog kf (tb (glC m) tab0) :=
  ((((TbOK.nil : TbOK Tryd.prog kf (tb (glC m) [])).cons k_reredoskeep_picked f_reredoskeep_picked e_reredoskeep_picked c_reredoskeep_picked v_picked).consG
    (k_lib (n := 8) (by decide)) (Vcg.enters_of Tryd.func8 (by kernel_rfl) (by kernel_rfl)) fok_Split (.inl rfl)).consG
    (k_lib (n := 13) (by decide)) (Vcg.enters_of Tryd.func13 (by kernel_rfl) (by kernel_rfl)) fok_Itoa (.inl rfl)).consG
    (k_lib (n := 12) (by decide)) (Vcg.enters_of Tryd.func12 (by kernel_rfl) (by kernel_rfl)) fok_Atoi (.inl rfl)
theorem dec_step {k : Nat} (hk : 1 ≤ k ∧ k ≤ 100000000) (h : FOK Tryd.prog (tb (glC m) tab0) 6 (sp_dec k)) : FOK Tryd.prog (tb (glC m) tab0) 6 (sp_dec (k * 10)) :=
  FOK_gl (FOK.of ((tab0_ok m).consG k_reredoskeep_dec e_reredoskeep_dec h (.inl rfl)) f_reredoskeep_dec c_reredoskeep_dec (v_dec k hk rfl)) rfl rfl
theorem fok_dec : FOK Tryd.prog (tb (glC m) tab0) 6 (sp_dec 10000000) :=
  dec_step m (k := 1000000) (by omega) (dec_step m (k := 100000) (by omega) (dec_step m (k := 10000) (by omega) (dec_step m (k := 1000) (by omega) (dec_step m (k := 100) (by omega) (dec_step m (k := 10) (by omega)
    (FOK.of (tab0_ok m) f_reredoskeep_dec c_reredoskeep_dec v_dec0))))))
noncomputable def tabC : List (Nat × Sp) := [(n_console_Read, sp_Read), (n_console_taker_number, sp_num), (n_console_taker_next, sp_next), (n_reredoskeep_dec, sp_dec 10000000)] ++ tab0
set_option maxRecDepth 10000 in
theorem tabC_ok : TbOK Tryd.prog kf (tb (glC m) tabC) :=
  ((((tab0_ok m).consG k_reredoskeep_dec e_reredoskeep_dec (fok_dec m) (.inl rfl)).cons k_console_taker_next f_console_taker_next e_console_taker_next c_console_taker_next v_next).cons
    k_console_taker_number f_console_taker_number e_console_taker_number c_console_taker_number (v_num rfl rfl rfl)).cons
    k_console_Read f_console_Read e_console_Read c_console_Read (v_Read rfl rfl rfl)
theorem fok_ConsoleBack : FOK Tryd.prog (tb (glC m) tabC) n_reredoskeep_ConsoleBack sp_ConsoleBack := FOK.of (tabC_ok m) f_reredoskeep_ConsoleBack c_reredoskeep_ConsoleBack (v_ConsoleBack rfl rfl rfl)
theorem fok_ConsoleBad : FOK Tryd.prog (tb (glC m) tabC) n_reredoskeep_ConsoleBad sp_ConsoleBad := FOK.of (tabC_ok m) f_reredoskeep_ConsoleBad c_reredoskeep_ConsoleBad (v_ConsoleBad rfl rfl)
end Go.Proofs.YtgmegekboglgdaaDoor
