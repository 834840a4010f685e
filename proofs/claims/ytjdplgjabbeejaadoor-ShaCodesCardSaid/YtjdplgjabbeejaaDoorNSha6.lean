/- bytes.Repeat of one byte, 64 times, walked. -/
import Derived.Test.YtjdplgjabbeejaaDoorNSha5
import Derived.Test.YtjdplgjabbeejaaDoorMXP
namespace Go.Proofs.YtjdplgjabbeejaaDoor.NSha
open Go Go.RowKit Go.Proofs.YtjdplgjabbeejaaDoor.MX Go.Proofs.YtjdplgjabbeejaaDoor.PSha
set_option linter.unusedVariables false
set_option linter.unusedSimpArgs false
set_option linter.unusedVariables false
set_option maxHeartbeats 1000000 in
theorem mul64_any (w : World) : Calls Tryd.prog 30 #[.int .u64 1, .int .u64 64] w (Says w (.tuple #[.int .u64 0, .int .u64 64])) := by
  refine calls_of_X (vs := [_, _]) (M := Hp w (fun _ => False) []) Tryd.func30 rfl Tryd.ntmps30 rfl (Hp.nil _ _) ?_
  repeat first
    | refine XC_region ?_
    | refine X_nil ?_
    | refine XC_seq ?_
    | refine XT_seq ?_
    | refine XC_ret ?_
    | refine Y_res (r_move rfl) rfl ?_
    | refine Y_res (r_assign rfl) rfl ?_
    | refine Y_res (r_addu rfl rfl) rfl ?_
    | refine Y_res (r_mulu rfl rfl) rfl ?_
    | refine Y_res (r_and rfl rfl) rfl ?_
    | refine Y_res (r_shr rfl rfl rfl) rfl ?_
  exact XT_ret2 (.inl rfl) Tryd.results30 rfl rfl (fun w' h => ⟨by kernel_rfl, h.chg⟩)
set_option maxHeartbeats 1000000 in
theorem mul_any (w : World) : Calls Tryd.prog 27 #[.int .u64 1, .int .u64 64] w (Says w (.tuple #[.int .u64 0, .int .u64 64])) := by
  refine calls_of_X (vs := [_, _]) (M := Hp w (fun _ => False) []) Tryd.func27 rfl Tryd.ntmps27 rfl (Hp.nil _ _) ?_
  repeat first
    | refine XC_region ?_
    | refine X_nil ?_
    | refine XC_condF rfl ?_
    | refine XC_seq ?_
    | refine XT_seq ?_
    | refine XC_skip ?_
    | refine XC_ret ?_
    | refine Y_res (r_move rfl) rfl ?_
    | refine Y_res (r_assign rfl) rfl ?_
    | refine Y_res (r_extract rfl rfl) rfl ?_
    | refine Y_says (g := 30) rfl rfl (fun w1 hM => mul64_any w1) ?_
  exact XT_ret2 (.inl rfl) Tryd.results27 rfl rfl (fun w' h => ⟨rfl, h.chg⟩)
theorem mnz_any (w : World) : ∃ c : Array Value, (callFunc 28 #[.int .i64 ((64 : Nat) : Int)]).run Tryd.prog w = .ok (.value (.slice (some ⟨w.heap.size, 0, none⟩) 64 c.size)) ((w.alloc (.cells c 5)).drewN 2) ∧ 64 ≤ c.size := by
  obtain ⟨cs, hrun, hle, _⟩ := Lib.run_makeNoZero (P := Tryd.prog) w #[3] 25 5 Tryd.underlying25 64 (by decide)
  refine ⟨cs, ?_, hle⟩
  rw [run_callFunc_extern Tryd.func28 (by kernel_rfl) (by kernel_rfl) (by kernel_rfl) (e := Extern.BytealgMakeNoZero.makeNoZero #[3] #[25]) (by kernel_rfl), hrun]
  rfl
set_option maxHeartbeats 4000000 in
set_option maxRecDepth 100000 in
theorem repeat_any (x : Int) (go0 : Nat) (w : World) (hr : Rds w (some ⟨go0, 0, none⟩) 1 .u8 [x]) :
    Calls Tryd.prog 24 #[.slice (some ⟨go0, 0, none⟩) 1 1, .int .i64 64] w fun e w' => ∃ go rs, e = .returned (.slice (some ⟨go, 0, none⟩) 64 64) ∧ Hp w (fun _ => False) [Ch.hd go .u8 (List.replicate 64 x) rs 5] w' ∧ w.heap.size ≤ go := by
  refine calls_of_X (vs := [_, _]) (M := Hp w (fun _ => False) []) Tryd.func24 rfl Tryd.ntmps24 rfl (Hp.nil _ _) ?_
  repeat first
    | refine XC_region ?_
    | refine X_nil ?_
    | refine XC_condF rfl ?_
    | refine XC_seq ?_
    | refine XT_seq ?_
    | refine XC_skip ?_
    | refine Y_res (r_move rfl) rfl ?_
    | refine Y_res (r_assign rfl) rfl ?_
    | refine Y_res (r_lss rfl rfl) rfl ?_
    | refine Y_res (r_gtr rfl rfl) rfl ?_
    | refine Y_res (r_eql rfl rfl) rfl ?_
    | refine Y_on rfl rfl ?_
    | refine Y_res (r_convuN rfl (by omega)) rfl ?_
    | refine Y_res (r_conv64 rfl (by omega)) rfl ?_
    | refine Y_res (r_len rfl) rfl ?_
    | refine Y_res (r_extract rfl rfl) rfl ?_
    | refine Y_res (r_pickF rfl rfl) rfl ?_
    | refine Y_says (g := 27) rfl rfl (fun w1 hM => mul_any w1) ?_
    | refine Y_splitF rfl rfl (by decide) ?_
  refine X_mnz (E := 5) (m := 64) rfl rfl (fun w1 => mnz_any w1) (fun go vs hgo hvs => ?_)
  repeat first
    | refine XC_region ?_
    | refine X_nil ?_
    | refine XC_seq ?_
    | refine XT_seq ?_
    | refine Y_res (r_move rfl) rfl ?_
    | refine Y_res (r_assign rfl) rfl ?_
    | refine Y_res (r_cutHM rfl rfl rfl (by decide) hvs) rfl ?_
  refine X_copy (ys := [x]) rfl rfl (fun w1 hM => hr.keep hM.chg (fun _ _ h => h)) (by rfl) (by simp; omega) rfl ?_
  repeat first
    | refine X_nil ?_
    | refine XC_seq ?_
    | refine XT_seq ?_
    | refine XC_block ?_
    | refine Y_res (r_assign rfl) rfl ?_
  refine XC_loop (ι := Nat × List Value) (fun p => 1 ≤ p.1 ∧ p.1 ≤ 64 ∧ p.2.length = vs.length ∧ ∃ r, p.2 = (List.replicate p.1 x).map (Value.int .u8) ++ r) (fun p => [(7, .int .i64 64), (8, .int .i64 64), (9, .slice (some ⟨go, 0, none⟩) 64 64), (10, .int .i64 p.1)])
    (fun p => Hp w (fun _ => False) [Ch.blk go p.2 5]) (fun p => 64 - p.1) (1, spl vs 0 ([x].map (Value.int .u8))) ⟨Nat.le_refl _, by dsimp only; omega, ?_, ?_⟩ ⟨rfl, rfl, rfl, rfl, trivial⟩ (fun _ h => h) ?_
  · simp [spl]
    omega
  · exact ⟨_, rfl⟩
  rintro ⟨bp, us⟩ ⟨hb1, hb2, hul, r, hr2⟩
  dsimp only at hb1 hb2 hul hr2 ⊢
  repeat first
    | refine XC_region ?_
    | refine X_nil ?_
    | refine XC_seq ?_
    | refine XT_seq ?_
    | refine Y_res (r_move rfl) rfl ?_
    | refine Y_res (r_lss rfl rfl) rfl ?_
  refine XC_condP rfl (fun hlt => ?_) (fun hge => ?_)
  · repeat first
      | refine XC_region ?_
      | refine XC_hoist [0] [1, 2, 3, 4, 5, 6] [] 7 (by kernel_rfl) (by decide +kernel) drw_hp rfl rfl rfl rfl ?_
      | refine X_nil ?_
      | refine XQ_nilH ?_
      | refine XC_seq ?_
      | refine XT_seq ?_
      | refine XC_block ?_
      | refine XC_skip ?_
      | refine Y_res (r_move rfl) rfl ?_
      | refine Y_res (r_assign rfl) rfl ?_
      | refine Y_res (r_cutL rfl rfl (by omega)) rfl ?_
      | refine Y_res (r_min2 rfl rfl) rfl ?_
    rw [if_neg (show ¬ (64 : Int) < (bp : Int) by omega)]
    refine Y_re (e := 70) (v' := .slice (some ⟨go, bp, none⟩) (64 - bp) (64 - bp)) rfl (by rw [cutA, if_neg (by omega)]; simp [add_mk]) ?_
    repeat first
      | refine XQ_nilX ?_
      | refine Y_res (r_cutH rfl rfl (by omega)) rfl ?_
    have hcp : ∀ w', Hp w (fun _ => False) [Ch.blk go us 5] w' → Rds w' (cutA (some ⟨go, 0, none⟩) 0 64 1) 64 .u8 (List.replicate (min bp (64 - bp)) x) := fun w' h => by
      have e : cutA (some ⟨go, 0, none⟩) 0 64 1 = some ⟨go, 0, none⟩ := by simp [cutA, add_mk]
      rw [e]
      refine rds_blk h.head ⟨(List.replicate (bp - min bp (64 - bp)) x).map (Value.int .u8) ++ r, ?_⟩ (by simp; omega) (by decide)
      rw [hr2, ← List.append_assoc, ← List.map_append, List.replicate_append_replicate]
      congr 3
      omega
    have hn : (List.replicate (min bp (64 - bp)) x).length = min bp (64 - bp) := List.length_replicate
    refine X_copy rfl rfl hcp hn (by omega) rfl ?_
    repeat first
      | refine X_nil ?_
      | refine XT_only ?_
      | refine XT_block_normal ?_
      | refine Y_res (r_assign rfl) rfl ?_
      | refine Y_res (r_add64 rfl rfl (by omega)) rfl ?_
    refine XT_re (e := 10) (v' := .int .i64 ((bp + min bp (64 - bp) : Nat) : Int)) rfl (by rw [hn, Int.natCast_add]) ?_
    refine XT_round (bp + min bp (64 - bp), _) ⟨by dsimp only; omega, by dsimp only; omega, ?_, ?_⟩ (by dsimp only; omega) ⟨rfl, rfl, rfl, rfl, trivial⟩ (fun _ h => h)
    · simp [spl]
      omega
    · refine ⟨(us.drop (bp + min bp (64 - bp))), ?_⟩
      dsimp only [spl]
      rw [hr2, List.take_append_of_le_length (by simp), List.take_of_length_le (by simp), ← List.append_assoc, ← List.map_append, List.replicate_append_replicate]
      simp
  · obtain rfl : bp = 64 := by omega
    repeat first
      | refine XC_region ?_
      | refine X_nil ?_
      | refine XC_seq ?_
      | refine XT_seq ?_
      | refine XT_block_same rfl ?_
      | refine XT_then_exit ?_
      | refine XC_exit ?_
      | refine XC_ret ?_
      | refine Y_res (r_move rfl) rfl ?_
      | refine Y_res (r_assign rfl) rfl ?_
    refine XT_ret1 (.inl rfl) Tryd.results24 rfl (fun w' h => ⟨go, r, rfl, ?_, hgo⟩)
    subst hr2
    exact h
end Go.Proofs.YtjdplgjabbeejaaDoor.NSha
