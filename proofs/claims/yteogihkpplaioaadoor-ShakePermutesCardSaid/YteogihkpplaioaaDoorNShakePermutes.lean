/- ShakePermutes, walked: true at every input. -/
import Derived.Test.YteogihkpplaioaaDoorNShake6
import Derived.Test.YteogihkpplaioaaDoorMXO
import Derived.Test.YteogihkpplaioaaDoorPShake3
namespace Go.Proofs.YteogihkpplaioaaDoor.NShake
open Go Go.RowKit Go.Proofs.YteogihkpplaioaaDoor.MX Go.Proofs.YteogihkpplaioaaDoor.PShake Go.Proofs.YteogihkpplaioaaDoor.NSame
set_option linter.unusedVariables false
set_option linter.unusedSimpArgs false
set_option maxHeartbeats 1000000 in
theorem permF_any (s : List Int) (hs : s.length = 25) (w : World) (hK : KAt w) : Calls Tryd.prog 18 #[.agg (s.map (Value.int .u64)).toArray] w (Says w (.agg ((perm s).map (Value.int .u64)).toArray)) := by
  have hpos := hK.pos
  refine calls_of_X (vs := [_]) (M := Hp w (fun _ => False) []) Tryd.func18 rfl Tryd.ntmps18 rfl (Hp.nil _ _) ?_
  have hhd : ∀ (g : Nat) (l : List Int), Ch.hd g .u64 l [] 39 = Ch.ints g .u64 l 39 := fun g l => by rw [Ch.hd, List.append_nil]; rfl
  repeat first
    | refine XC_region ?_
    | refine X_nil ?_
    | refine XC_seq ?_
    | refine XT_seq ?_
    | (refine X_allocI rfl ?_; intro _ _)
    | (refine X_boxI rfl rfl ?_; intro _ _)
  rename_i g1 hg1 g2 hg2
  refine X_call (g := 24) (vs := [_]) rfl rfl (fun w1 h1 => (permute_any g1 s [] 39 w1 (by rw [hhd]; exact h1.tail.head) hs (hK.keep h1.chg (fun h => h)) (by omega)).mono ?_)
  rintro e w2 ⟨rfl, h2, hc2⟩
  rw [hhd] at h2
  refine ⟨_, rfl, _, (h1.swap.turn hc2 h2 (fun k hk => .inl hk)).swap, ?_⟩
  clear h1 h2 hc2
  have hl := perm_len s
  repeat first
    | refine XC_region ?_
    | refine X_nil ?_
    | refine XC_seq ?_
    | refine XT_seq ?_
    | refine XC_ret ?_
    | refine X_storeWI rfl rfl (by rfl) (by rfl) ?_
    | refine Y_res (r_loadWI rfl (by rfl)) rfl ?_
    | refine Y_res (r_loadWI rfl hl) rfl ?_
    | refine X_storeWI rfl rfl hl (by rw [hl]; rfl) ?_
  exact XT_retC (.inl rfl) Tryd.results18 rfl hl (fun w' h => ⟨rfl, h.chg⟩)
set_option maxHeartbeats 4000000 in
set_option maxRecDepth 100000 in
theorem shakePermutes_any (s : List Int) (at_ v : Int) (w : World) (hs : s.length = 25) (hws : ∀ i, i < 25 → (Lit.int .u64 (s.getD i 0)).wf = true) (hwa : (Lit.int .i64 at_).wf = true) (hwv : (Lit.int .u64 v).wf = true) (hK : KAt w) :
    Calls Tryd.prog 7 #[.agg (s.map (Value.int .u64)).toArray, .int .i64 at_, .int .u64 v] w fun e w' => e = .returned (.bool true) ∧ Chg (fun _ => False) w w' := by
  have wfu : ∀ {x : Int}, (Lit.int .u64 x).wf = true → U64 x := fun h => by
    have h2 : (decide (IntKind.u64.min ≤ _) && decide (_ ≤ IntKind.u64.max)) = true := h
    rw [Bool.and_eq_true, decide_eq_true_eq, decide_eq_true_eq] at h2
    have e1 : IntKind.u64.min = 0 := by decide
    have e2 : IntKind.u64.max = 18446744073709551615 := by decide
    unfold U64
    omega
  have hls : Lns s := ⟨hs, fun i hi => wfu (hws i hi)⟩
  have hlv := wfu hwv
  have ha64 := wf64 hwa
  refine calls_of_X (Rr := Says w (.bool true)) (vs := [_, _, _]) (M := Hp w (fun _ => False) []) Tryd.func7 rfl Tryd.ntmps7 rfl (Hp.nil _ _) ?_
  have hpl := perm_len s
  obtain ⟨p, hp⟩ : ∃ p, p = perm s := ⟨_, rfl⟩
  rw [← hp] at hpl
  have hRC : RC.length = 24 := rfl
  have hTI : TSI.length = 25 := rfl
  have hpF : ∀ w, KAt w → Calls Tryd.prog 18 #[.agg (s.map (Value.int .u64)).toArray] w (Says w (.agg (p.map (Value.int .u64)).toArray)) := fun w hK => by rw [hp]; exact permF_any s hs w hK
  have hpR : ∀ w, Calls Tryd.prog 19 #[.agg (s.map (Value.int .u64)).toArray, .agg (RC.map (Value.int .u64)).toArray, .agg (TSI.map (Value.int .i64)).toArray] w (Says w (.agg (p.map (Value.int .u64)).toArray)) := fun w => by rw [hp]; exact rperm_any s hs w
  repeat first
    | refine XC_region ?_
    | refine XC_quietF rfl (by kernel_rfl) (by kernel_rfl) drw_hp ?_
    | refine X_nil ?_
    | refine XQ_nil ?_
    | refine XC_condF rfl ?_
    | refine XC_seq ?_
    | refine XT_seq ?_
    | refine XC_skip ?_
    | refine Y_res (r_assign rfl) rfl ?_
    | refine Y_res (r_notB rfl) rfl ?_
    | (refine X_allocI rfl ?_; intro _ _)
    | refine Y_says (g := 8) rfl rfl (fun w1 hM => anchor_any w1 (hK.keep hM.chg (fun h => h))) ?_
    | (refine X_boxI rfl rfl ?_; intro _ _)
    | refine Y_res (r_loadWI rfl hs) rfl ?_
    | refine Y_res (r_loadWI rfl hpl) rfl ?_
    | refine Y_says (g := 18) rfl rfl (fun w1 hM => hpF w1 (hK.keep hM.chg (fun h => h))) ?_
    | refine X_storeWI rfl rfl hpl (by rw [hpl]; rfl) ?_
    | refine Y_says (g := 20) rfl rfl (fun w1 hM => nums_any w1) ?_
    | refine Y_says (g := 21) rfl rfl (fun w1 hM => turns_any w1) ?_
    | refine Y_says (g := 19) rfl rfl (fun w1 hM => hpR w1) ?_
    | refine Y_res (r_neqA rfl rfl (by kernel_rfl) hpl hpl) rfl ?_
  refine XC_condN rfl (fun h => absurd rfl (of_decide_eq_false h)) (fun _ => ?_)
  by_cases h0 : at_ < 0
  · repeat first
      | refine XC_region ?_
      | refine X_nil ?_
      | refine XC_condT rfl ?_
      | refine XC_seq ?_
      | refine XT_seq ?_
      | refine XT_then_ret ?_
      | refine XC_skip ?_
      | refine XC_ret ?_
      | refine Y_res (r_move rfl) rfl ?_
      | refine Y_res (r_assign rfl) rfl ?_
      | refine Y_res (r_lss rfl rfl) rfl ?_
      | refine Y_off rfl rfl rfl ?_
      | refine Y_res (r_pickT rfl rfl) rfl ?_
      | refine Y_splitT rfl rfl h0 ?_
    exact XT_says (.inl rfl) Tryd.results7 rfl rfl
  by_cases h1 : 24 < at_
  · repeat first
      | refine XC_region ?_
      | refine X_nil ?_
      | refine XC_seq ?_
      | refine XT_seq ?_
      | refine XC_skip ?_
      | refine Y_res (r_move rfl) rfl ?_
      | refine Y_res (r_lss rfl rfl) rfl ?_
      | refine Y_res (r_gtr rfl rfl) rfl ?_
      | refine Y_on rfl rfl ?_
      | refine Y_res (r_pickF rfl rfl) rfl ?_
      | refine Y_splitF rfl rfl h0 ?_
    refine XC_condP rfl (fun _ => ?_) (fun h => absurd h1 h)
    repeat first
      | refine XC_region ?_
      | refine X_nil ?_
      | refine XC_seq ?_
      | refine XT_seq ?_
      | refine XT_then_ret ?_
      | refine XC_ret ?_
      | refine Y_res (r_assign rfl) rfl ?_
    exact XT_says (.inl rfl) Tryd.results7 rfl rfl
  obtain ⟨m, rfl⟩ : ∃ m : Nat, at_ = m := ⟨at_.toNat, by omega⟩
  have hlt : Lns (s.set m v) := set_lns hls (by omega) hlv
  have hlt1 := hlt.1
  have hpt := perm_len (s.set m v)
  have heq : decide (perm (s.set m v) = p) = decide (s.set m v = s) := by
    rw [hp]
    exact decide_eq_decide.2 ⟨fun h => perm_inj hlt hls h, fun h => by rw [h]⟩
  repeat first
    | refine XC_region ?_
    | refine X_nil ?_
    | refine XC_seq ?_
    | refine XT_seq ?_
    | refine XC_skip ?_
    | refine Y_res (r_move rfl) rfl ?_
    | refine Y_res (r_lss rfl rfl) rfl ?_
    | refine Y_res (r_gtr rfl rfl) rfl ?_
    | refine Y_on rfl rfl ?_
    | refine Y_res (r_pickF rfl rfl) rfl ?_
    | refine Y_splitF rfl rfl h0 ?_
  refine XC_condP rfl (fun h => absurd h h1) (fun _ => ?_)
  repeat first
    | refine XC_region ?_
    | refine XC_quietF rfl (by kernel_rfl) (by kernel_rfl) drw_hp ?_
    | refine X_nil ?_
    | refine XQ_nil ?_
    | refine XC_seq ?_
    | refine XT_seq ?_
    | refine XC_skip ?_
    | refine XC_ret ?_
    | refine Y_res (r_move rfl) rfl ?_
    | refine Y_res (r_assign rfl) rfl ?_
    | refine Y_res (r_eqlB rfl rfl) rfl ?_
    | refine Y_res (r_indexA0 rfl rfl (by omega)) rfl ?_
    | refine X_storeI rfl rfl (by first | omega | (simp only [List.length_set, List.length_replicate]; omega)) ?_
    | (refine X_allocI rfl ?_; intro _ _)
    | refine Y_res (r_loadWI rfl hs) rfl ?_
    | refine Y_res (r_loadWI rfl hpl) rfl ?_
    | refine Y_res (r_loadWI rfl hlt1) rfl ?_
    | refine X_storeWI rfl rfl hs (by rw [hs]; rfl) ?_
    | refine Y_says (g := 18) rfl rfl (fun w1 hM => permF_any _ hlt1 w1 (hK.keep hM.chg (fun h => h))) ?_
    | refine Y_res (r_eqlA rfl rfl (by kernel_rfl) hpt hpl) rfl ?_
    | refine Y_res (r_eqlA rfl rfl (by kernel_rfl) hlt1 hs) rfl ?_
  exact XT_says (.inl rfl) Tryd.results7 rfl (by rw [heq]; simp)
end Go.Proofs.YteogihkpplaioaaDoor.NShake
