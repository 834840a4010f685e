/- The reference's sums and differences, walked. -/
import Derived.Test.YtoednaebdfohbaaNRing7
namespace Go.Proofs.Ytoednaebdfohbaa.NRing
open Go Go.RowKit Go.Proofs.Ytoednaebdfohbaa.MX Go.Proofs.Ytoednaebdfohbaa.PRing
set_option linter.unusedVariables false
set_option linter.unusedSimpArgs false
set_option maxHeartbeats 1000000 in
set_option maxRecDepth 100000 in
theorem radd_any (a b : List Int) (A B : Option Addr) (ca cb : Nat) (w : World) (ha : Rds w A ca .i64 a) (hb : Rds w B cb .i64 b) (hoa : Ok a) (hob : Ok b) :
    Calls Try.prog 21 #[.slice A a.length ca, .slice B b.length cb] w fun e w' => ∃ v, e = .returned v ∧ NewSl w w' (zip2 fAdd a b) v ∧ Chg (fun _ => False) w w' := by
  have hla := hoa.1
  have hlb := hob.1
  have hca := ha.le
  have hcb := hb.le
  obtain ⟨z, hz⟩ : ∃ z, z = zip2 fAdd a b := ⟨_, rfl⟩
  have hzl : z.length = 256 := by rw [hz, zip2_len]
  have hzg : ∀ i, i < 256 → z.getD i 0 = (a.getD i 0 + b.getD i 0) % 8380417 := fun i hi => by rw [hz, zip2_get _ _ _ _ hi]; rfl
  have hzg := Lib.hid hzg
  rw [← hz]
  clear hz
  refine calls_of_X (vs := [_, _]) (M := Hp w (fun _ => False) []) Try.func21 rfl Try.ntmps21 rfl (Hp.nil _ _) ?_
  repeat first
    | refine XC_region ?_
    | refine X_nil ?_
    | refine XC_seq ?_
    | refine XT_seq ?_
    | refine XC_block ?_
    | refine Y_res (r_assign rfl) rfl ?_
    | (refine X_make rfl rfl (by omega) (by omega) (by omega) rfl ?_; intro _ _)
  rename_i go hgo
  refine XC_loop (ι := Nat) (fun i => i ≤ 256) (fun i => [(0, .slice A a.length ca), (1, .slice B b.length cb), (5, .slice (some ⟨go, 0, none⟩) 256 256), (6, .int .i64 i)])
    (fun i => Hp w (fun _ => False) [Ch.sl (some ⟨go, 0, none⟩) 256 3 .i64 (part z i)]) (fun i => 256 - i) 0 (by omega) ⟨rfl, rfl, rfl, rfl, trivial⟩ (fun _ h => by rw [part_0]; exact h) ?_
  intro i hi
  have hpl := part_len z i
  repeat first
    | refine XC_region ?_
    | refine X_nil ?_
    | refine XC_seq ?_
    | refine XT_seq ?_
    | refine Y_res (r_move rfl) rfl ?_
    | refine Y_res (r_lss rfl rfl) rfl ?_
  refine XC_condP rfl (fun hlt => ?_) (fun hge => ?_)
  · have hi2 : i < 256 := by omega
    have hx := hoa.2 i hi2
    have hy := hob.2 i hi2
    repeat first
      | refine XC_region ?_
      | refine XC_tailF (by kernel_rfl) (by kernel_rfl) drw_hp ?_
      | refine X_nil ?_
      | refine XQ_nilX ?_
      | refine XC_seq ?_
      | refine XT_seq ?_
      | refine XC_block ?_
      | refine XT_block_normal ?_
      | refine XC_skip ?_
      | refine Y_res (r_move rfl) rfl ?_
      | refine Y_res (r_assign rfl) rfl ?_
      | refine Y_res (r_add64 rfl rfl (by omega)) rfl ?_
      | refine Y_res (r_rem rfl rfl (by omega)) rfl ?_
      | refine Y_res (r_indexS rfl rfl (by omega) (by first | omega | (simp only [List.length_set, List.length_replicate]; omega))) rfl ?_
      | refine Y_res (r_indexR rfl rfl (by assumption) (by omega) (by omega)) rfl ?_
      | refine Y_res (r_loadR rfl (by assumption) (by first | exact old_false | assumption) (by omega)) rfl ?_
      | refine X_storeI rfl rfl (by first | omega | (simp only [List.length_set, List.length_replicate]; omega)) ?_
    refine XT_round (i + 1) (by omega) (by omega) ⟨rfl, rfl, rfl, rfl, trivial⟩ (fun w3 h3 => ?_)
    rw [← part_set z i hi2, hzg.out i hi2]
    exact h3
  · obtain rfl : i = 256 := by omega
    rw [part_256 z hzl]
    repeat first
      | refine XC_region ?_
      | refine X_nil ?_
      | refine XC_seq ?_
      | refine XT_seq ?_
      | refine XT_block_same rfl ?_
      | refine XT_then_exit ?_
      | refine XC_exit ?_
      | refine XC_ret ?_
      | refine Y_res (r_move rfl) rfl ?_
      | refine Y_res (r_assign rfl) rfl ?_
    refine XT_ret1 (.inl rfl) Try.results21 rfl (fun w' h => ?_)
    exact ⟨_, rfl, ⟨_, _, by rw [hzl], h.head, fun j hj => (h.own _ (List.mem_cons_self ..) j hj).resolve_left (fun h => h)⟩, h.chg⟩
end Go.Proofs.Ytoednaebdfohbaa.NRing
