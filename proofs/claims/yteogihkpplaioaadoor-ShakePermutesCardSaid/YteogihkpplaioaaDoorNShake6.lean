/- The examples, walked. -/
import Derived.Test.YteogihkpplaioaaDoorNShake5
import Derived.Test.YteogihkpplaioaaDoorPShake2
import Derived.Test.YteogihkpplaioaaDoorNSame
namespace Go.Proofs.YteogihkpplaioaaDoor.NShake
open Go Go.RowKit Go.Proofs.YteogihkpplaioaaDoor.MX Go.Proofs.YteogihkpplaioaaDoor.PShake Go.Proofs.YteogihkpplaioaaDoor.NSame
set_option linter.unusedVariables false
set_option linter.unusedSimpArgs false
set_option maxHeartbeats 4000000 in
set_option maxRecDepth 100000 in
theorem anchor_any (w : World) (hK : KAt w) : Calls Tryd.prog 8 #[] w (Says w (.bool true)) := by
  refine calls_of_X (vs := []) (M := Hp w (fun _ => False) []) Tryd.func8 rfl Tryd.ntmps8 rfl (Hp.nil _ _) ?_
  repeat first
    | refine XC_region ?_
    | refine X_nil ?_
    | refine XC_seq ?_
    | refine XT_seq ?_
    | refine Y_res (r_assign rfl) rfl ?_
    | refine X_tells (g := 9) (vs := [.slice none ([] : List Int).length 0, .int .i64 ((4 : Nat) : Int)]) rfl rfl (fun w1 hM => sum128_any [] none 0 4 w1 (Rds.nil_ _ _) (by simp) (by decide) (hK.keep hM.chg (fun h => h))) ?_
  intro A1 c1 x1 h1
  obtain ⟨k1, k2⟩ := known128
  rw [← h1] at k1 k2
  have l1 : x1.length = 4 := by rw [h1]; exact outs_len _ _ _ _
  clear h1
  repeat first
    | refine X_tells (g := 10) (vs := [.slice none ([] : List Int).length 0, .int .i64 ((4 : Nat) : Int)]) rfl rfl (fun w1 hM => sum256_any [] none 0 4 w1 (Rds.nil_ _ _) (by simp) (by decide) (hK.keep hM.chg (fun h => h))) ?_
  intro A2 c2 x2 h2
  obtain ⟨m1, m2⟩ := known256
  rw [← h2] at m1 m2
  have l2 : x2.length = 4 := by rw [h2]; exact outs_len _ _ _ _
  clear h2
  repeat first
    | refine XC_region ?_
    | refine X_nil ?_
    | refine XC_seq ?_
    | refine XT_seq ?_
    | refine XC_ret ?_
    | refine Y_res (r_move rfl) rfl ?_
    | refine Y_res (r_assign rfl) rfl ?_
    | refine Y_res (r_eql rfl rfl) rfl ?_
    | refine Y_res (r_eqlNil2 rfl rfl) rfl ?_
    | refine Y_on rfl rfl ?_
    | refine Y_res (r_len rfl) rfl ?_
    | refine Y_res (r_indexS rfl rfl (by omega) (by first | omega | (simp only [List.length_set, List.length_replicate]; omega))) rfl ?_
    | refine Y_res (r_loadI rfl (by first | omega | (simp only [List.length_set, List.length_replicate]; omega))) rfl ?_
    | refine Y_res (r_pickT rfl rfl) rfl ?_
    | refine Y_says (g := 14) rfl rfl (fun w1 hM => new_none _ w1 (by decide)) ?_
    | refine Y_splitT rfl rfl (by omega) ?_
    | refine Y_splitT rfl rfl (by assumption) ?_
  exact XT_says (.inl rfl) Tryd.results8 rfl rfl
end Go.Proofs.YteogihkpplaioaaDoor.NShake
