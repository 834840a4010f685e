/- A disk's clone, and the document's example: walked. -/
import Derived.Test.YtipikjikjjmmiaaNPl3
import Derived.Test.YtipikjikjjmmiaaMXD
namespace Go.Proofs.Ytipikjikjjmmiaa.NPl
open Go Go.RowKit Go.Proofs.Ytipikjikjjmmiaa.MX
set_option linter.unusedVariables false
set_option linter.unusedSimpArgs false
set_option linter.unusedVariables false
set_option maxRecDepth 100000 in
set_option maxHeartbeats 2000000 in
theorem clsec_any (A : Option Addr) (l c : Nat) (vs : List Value) (w : World) (hr : RdV w A c 64 l vs) (hl : l ≤ 20000) (h1 : ∀ v ∈ vs, v.oneCell' = true) : Calls Try.prog 30 #[.slice A l c] w fun e w' => ∃ A' c', e = .returned (.slice A' l c') ∧ Hp w (fun _ => False) [Ch.sv A' c' 62 64 l vs] w' := by
  refine calls_of_X (vs := [_]) (M := Hp w (fun _ => False) []) Try.func30 rfl Try.ntmps30 rfl (Hp.nil _ _) ?_
  repeat first
    | refine XC_region ?_
    | refine X_nil ?_
    | refine XC_seq ?_
    | refine XT_seq ?_
    | refine Y_res (r_move rfl) rfl ?_
    | refine Y_res (r_assign rfl) rfl ?_
    | refine Y_res (r_eqlS rfl rfl) rfl ?_
  cases A with
  | none =>
    have e1 := hr.le
    have e2 := hr.nil rfl
    have e3 := hr.len
    obtain rfl : l = 0 := by omega
    obtain rfl : vs = [] := List.eq_nil_of_length_eq_zero (by omega)
    refine XC_cond rfl (fun h => ?_) (fun h => by cases h)
    repeat first
      | refine XC_region ?_
      | refine X_nil ?_
      | refine XC_seq ?_
      | refine XT_seq ?_
      | refine XT_then_ret ?_
      | refine XC_ret ?_
      | refine Y_res (r_assign rfl) rfl ?_
    exact XT_ret1 (.inl rfl) Try.results30 rfl (fun w' h => ⟨none, 0, rfl, h.nilV 62 64⟩)
  | some ad =>
    refine XC_cond rfl (fun h => by cases h) (fun h => ?_)
    repeat first
      | refine XC_region ?_
      | refine X_nil ?_
      | refine XC_seq ?_
      | refine XT_seq ?_
      | refine XC_skip ?_
      | refine XC_ret ?_
      | refine Y_res (r_move rfl) rfl ?_
      | refine Y_res (r_assign rfl) rfl ?_
      | (refine X_buildE (s := 64) (by decide) rfl ?_; intro g hg)
      | (refine X_appendV (s := 64) (ys := vs) rfl rfl (fun w1 hM => hr.old hM old_false) h1 rfl (by decide) rfl rfl (by omega) (by omega) rfl ?_; intro A4 c4)
    rw [Nat.zero_add]
    exact XT_ret1 (.inl rfl) Try.results30 rfl (fun w' h => ⟨A4, c4, rfl, h⟩)
set_option maxRecDepth 100000 in
set_option maxHeartbeats 10000000 in
theorem clwr_any (A : Option Addr) (l c : Nat) (vs : List Value) (w : World) (hr : RdV w A c 65 l vs) (hl : l ≤ 100000) (h1 : ∀ v ∈ vs, v.oneCell' = true) : Calls Try.prog 31 #[.slice A l c] w fun e w' => ∃ A' c', e = .returned (.slice A' l c') ∧ Hp w (fun _ => False) [Ch.sv A' c' 64 65 l vs] w' := by
  refine calls_of_X (vs := [_]) (M := Hp w (fun _ => False) []) Try.func31 rfl Try.ntmps31 rfl (Hp.nil _ _) ?_
  repeat first
    | refine XC_region ?_
    | refine X_nil ?_
    | refine XC_seq ?_
    | refine XT_seq ?_
    | refine Y_res (r_move rfl) rfl ?_
    | refine Y_res (r_assign rfl) rfl ?_
    | refine Y_res (r_eqlS rfl rfl) rfl ?_
  cases A with
  | none =>
    have e1 := hr.le
    have e2 := hr.nil rfl
    have e3 := hr.len
    obtain rfl : l = 0 := by omega
    obtain rfl : vs = [] := List.eq_nil_of_length_eq_zero (by omega)
    refine XC_cond rfl (fun h => ?_) (fun h => by cases h)
    repeat first
      | refine XC_region ?_
      | refine X_nil ?_
      | refine XC_seq ?_
      | refine XT_seq ?_
      | refine XT_then_ret ?_
      | refine XC_ret ?_
      | refine Y_res (r_assign rfl) rfl ?_
    exact XT_ret1 (.inl rfl) Try.results31 rfl (fun w' h => ⟨none, 0, rfl, h.nilV 64 65⟩)
  | some ad =>
    refine XC_cond rfl (fun h => by cases h) (fun h => ?_)
    repeat first
      | refine XC_region ?_
      | refine X_nil ?_
      | refine XC_seq ?_
      | refine XT_seq ?_
      | refine XC_skip ?_
      | refine XC_ret ?_
      | refine Y_res (r_move rfl) rfl ?_
      | refine Y_res (r_assign rfl) rfl ?_
      | (refine X_buildE (s := 65) (by decide) rfl ?_; intro g hg)
      | (refine X_appendV (s := 65) (ys := vs) rfl rfl (fun w1 hM => hr.old hM old_false) h1 rfl (by decide) rfl rfl (by omega) (by omega) rfl ?_; intro A4 c4)
    rw [Nat.zero_add]
    exact XT_ret1 (.inl rfl) Try.results31 rfl (fun w' h => ⟨A4, c4, rfl, h⟩)
theorem fr1 {w0 w w' : World} {S : Nat → Prop} {cs : List Ch} {d : Ch} (h : Hp w0 S cs w) (h2 : Hp w (fun _ => False) [d] w') : Hp w0 S (d :: cs) w' := h.frame0 h2
theorem wrs_one {L : List (Nat × List Int)} : ∀ v ∈ (L.map wrC).flatten, v.oneCell' = true := fun v hv => by
  obtain ⟨l, hl, hv⟩ := List.mem_flatten.1 hv
  obtain ⟨s, hs, rfl⟩ := List.mem_map.1 hl
  exact wrC_one s v hv
section
variable {g : Nat} {a : Ad} {p : Pl} {w w0 : World} {TS : Nat → Prop} {es : List Ch}
set_option maxRecDepth 100000 in
set_option maxHeartbeats 4000000 in
theorem clone_any (hT : Hp w0 TS (PlC g a p es) w) (hp : PlOk p) : Calls Try.prog 18 #[.pointer (some ⟨g, 0, none⟩)] w fun e w' => ∃ g' a', e = .returned (.pointer (some ⟨g', 0, none⟩)) ∧ Hp w0 TS (PlC g a p (PlC g' a' p es)) w' := by
  refine calls_of_X (vs := [_]) (M := Hp w0 TS (PlC g a p es)) Try.func18 rfl Try.ntmps18 rfl hT ?_
  have hhi := hp.hi
  have hll := hp.ll
  unfold PlC
  repeat first
    | refine XC_region ?_
    | refine X_nil ?_
    | refine XC_seq ?_
    | refine XT_seq ?_
    | refine Y_res (r_assign rfl) rfl ?_
  refine XC_held 25 (Hp w0 TS (Ch.blk g [.slice a.As p.n a.cs, .slice a.An p.n a.cn, .slice a.Lo p.loose.length a.lc, .int .i64 p.left, .bool p.down] 60 :: Ch.sv a.As a.cs 62 64 p.n (p.safe.map secC).flatten :: Ch.sv a.An a.cn 62 64 p.n (p.now.map secC).flatten :: Ch.sv a.Lo a.lc 64 65 p.loose.length (p.loose.map wrC).flatten :: es)) rfl drw_hp (fun _ h => h) ?_
  refine TE_reads [0, 1, 2, 3, 5, 6, 7, 8, 10, 11, 12, 13, 15, 16, 17, 18, 19, 20, 21, 22] (by decide +kernel) (by decide +kernel) rfl ?_
  repeat first
    | refine Y_res (r_move rfl) rfl ?_
    | refine Y_res (r_field' rfl) rfl ?_
    | refine Y_res (r_nilCheck rfl) rfl ?_
    | refine Y_res (r_loadB rfl rfl) rfl ?_
  refine XQ_nodeE ?_
  refine TE_one 4 (by decide +kernel) rfl rfl ?_
  refine X_call (g := 30) rfl rfl (fun w1 q1 => (clsec_any _ _ _ _ w1 (rdv_sv (q1.sat _ (List.mem_cons_of_mem _ (List.mem_cons_self ..)))) (by omega) secs_one).mono ?_)
  rintro e w2 ⟨A1, c1, rfl, q2⟩
  refine ⟨_, rfl, _, fr1 q1 q2, ?_⟩
  clear q1 q2
  repeat first
    | refine X_nil ?_
    | refine XT_only ?_
  refine XT_nodeE (fun _ h => h.tail) ?_
  refine TE_one 9 (by decide +kernel) rfl rfl ?_
  refine X_call (g := 30) rfl rfl (fun w1 q1 => (clsec_any _ _ _ _ w1 (rdv_sv (q1.sat _ (List.mem_cons_of_mem _ (List.mem_cons_of_mem _ (List.mem_cons_of_mem _ (List.mem_cons_self ..)))))) (by omega) secs_one).mono ?_)
  rintro e w2 ⟨A2, c2, rfl, q2⟩
  refine ⟨_, rfl, _, fr1 q1 q2, ?_⟩
  clear q1 q2
  repeat first
    | refine X_nil ?_
    | refine XT_only ?_
  refine XT_nodeE (fun _ h => h.tail.tail) ?_
  refine TE_one 14 (by decide +kernel) rfl rfl ?_
  refine X_call (g := 31) rfl rfl (fun w1 q1 => (clwr_any _ _ _ _ w1 (rdv_sv (q1.sat _ (List.mem_cons_of_mem _ (List.mem_cons_of_mem _ (List.mem_cons_of_mem _ (List.mem_cons_of_mem _ (List.mem_cons_of_mem _ (List.mem_cons_self ..)))))))) (by omega) wrs_one).mono ?_)
  rintro e w2 ⟨A3, c3, rfl, q2⟩
  refine ⟨_, rfl, _, fr1 q1 q2, ?_⟩
  clear q1 q2
  repeat first
    | refine X_nil ?_
    | refine XT_only ?_
  refine XT_nodeE (fun _ h => h.tail.tail.tail) ?_
  refine TE_one 23 (by decide +kernel) rfl rfl ?_
  refine Y_res (r_buildX (v := .agg [.slice A1 p.n c1, .slice A2 p.n c2, .slice A3 p.loose.length c3, .int .i64 p.left, .bool p.down].toArray) rfl (fun w => by kernel_rfl)) rfl ?_
  repeat first
    | refine X_nil ?_
    | refine XT_only ?_
  refine XT_nodeE (fun _ h => h.tail.tail.tail) ?_
  refine TE_one 24 (by decide +kernel) rfl rfl ?_
  refine X_boxA (vs := [.slice A1 p.n c1, .slice A2 p.n c2, .slice A3 p.loose.length c3, .int .i64 p.left, .bool p.down]) rfl rfl (fun g' hg' => ?_)
  repeat first
    | refine X_nil ?_
    | refine XT_only ?_
  refine XT_nodeE (fun _ h => h.tail.tail.tail.tail) ?_
  refine TE_tail 25 (by decide +kernel) rfl rfl ?_
  repeat first
    | refine X_nil ?_
    | refine XT_only ?_
    | refine Y_res (r_assign rfl) rfl ?_
  refine XT_nodeW (TN_end (by decide +kernel) ?_)
  repeat first
    | refine XT_seq ?_
    | refine XC_ret ?_
  refine XT_ret1 (.inl rfl) Try.results18 rfl (fun w' h => ⟨g', ⟨A1, c1, A2, c2, A3, c3⟩, rfl, ?_⟩)
  refine h.of_perm (List.Perm.trans (List.Perm.cons _ ?_) (List.perm_append_comm_assoc [_, _, _, _] [_, _, _, _] es))
  exact (List.Perm.swap _ _ _).trans ((List.Perm.cons _ (List.Perm.swap _ _ _)).trans (List.Perm.swap _ _ _))
end
end Go.Proofs.Ytipikjikjjmmiaa.NPl
