/- PlatePlays, walked: true at every input. -/
import Derived.Test.YtipikjikjjmmiaaNPlD
namespace Go.Proofs.Ytipikjikjjmmiaa.NPl
open Go Go.RowKit Go.Proofs.Ytipikjikjjmmiaa.MX Go.Proofs.Ytipikjikjjmmiaa.NSame
set_option linter.unusedVariables false
set_option linter.unusedSimpArgs false
set_option linter.unusedVariables false
theorem smallB_iff {l : List OpD} (h : smallB l = true) : l.length ≤ 200 ∧ ∀ (j : Nat) (o : OpD), l[j]? = some o → 0 ≤ o.2.2.1 ∧ o.2.2.1 ≤ 200 := by
  rw [smallB, Bool.and_eq_true] at h
  refine ⟨of_decide_eq_true h.1, fun j o hj => ?_⟩
  have := List.all_eq_true.1 h.2 o (List.mem_of_getElem? hj)
  simpa using this
theorem two_new {n : Nat} (h1 : 8 ≤ n) (h2 : n ≤ 16384) : Two (new0 n) (new0 n) (List.replicate n it0) [] := ⟨ok_new h1 h2, ok_new h1 h2, rfok_new n, pnow_new n, rfl⟩
/-- Where a play stands. -/
structure Pla (n i : Nat) (p : Pl) (si : List It) (li : List (Nat × It)) : Prop where
  two : Two p p si li
  nn : p.n = n
  ll : p.loose.length ≤ i
theorem Pla.op {n i : Nat} {p : Pl} {si si' : List It} {li li' : List (Nat × It)} {w : World} {o : OpD} (h : Pla n i p si li) (hi : i ≤ 10000) (ho : OpOk w o) (h2 : Two (opP p o) (opP p o) si' li') : Pla n (i + 1) (opP p o) si' li' := by
  have hl := h.ll
  obtain ⟨k1, k2, k3⟩ := ok_op h.two.po (by omega) ho
  exact ⟨h2, k2.trans h.nn, by omega⟩
theorem rdv_none (w : World) : RdV w none 0 1 0 [] := RdV.nil_ w 1
set_option maxRecDepth 100000 in
set_option maxHeartbeats 8000000 in
theorem plays_any (m : Int) (l : List OpD) (A : Option Addr) (c : Nat) (w : World) (hm : (Lit.int .i64 m).wf = true) (h : shOps.has w [.slice A l.length c] (A, c, l)) :
    Calls Try.prog 7 #[.int .i64 m, .slice A l.length c] w fun e w' => e = .returned (.bool true) ∧ Chg (fun _ => False) w w' := by
  have hm64 := wf64 hm
  have hO := ops_at h
  obtain ⟨hA, hlc, hlm, hops⟩ := hO
  have hops := Lib.hid hops
  clear h
  refine calls_of_X (Rr := Says w (.bool true)) (vs := [_, _]) (M := Hp w (fun _ => False) []) Try.func7 rfl Try.ntmps7 rfl (Hp.nil _ _) ?_
  repeat first
    | refine XC_region ?_
    | refine X_nil ?_
    | refine XC_condF rfl ?_
    | refine XC_seq ?_
    | refine XT_seq ?_
    | refine XC_skip ?_
    | refine Y_res (r_move rfl) rfl ?_
    | refine Y_res (r_assign rfl) rfl ?_
    | refine Y_res (r_notB rfl) rfl ?_
    | refine Y_says (g := 8) rfl rfl (fun w1 hM => anchor_any w1) ?_
  by_cases hin : 8 ≤ m ∧ m ≤ 16384
  · obtain ⟨n, rfl⟩ : ∃ n : Nat, m = n := ⟨m.toNat, by omega⟩
    refine X_call (g := 9) rfl rfl (fun w1 q1 => (new_es n q1 (by omega) (by omega)).mono ?_)
    rintro e w2 ⟨g, a, rfl, q2⟩
    refine ⟨_, rfl, _, q2, ?_⟩
    clear q1 q2
    repeat first
      | refine XC_region ?_
      | refine X_nil ?_
      | refine XC_seq ?_
      | refine XT_seq ?_
      | refine Y_res (r_move rfl) rfl ?_
      | refine Y_res (r_assign rfl) rfl ?_
    refine X_call (g := 16) rfl rfl (fun w1 q1 => (rnew_es n q1 (by omega) (by omega)).mono ?_)
    rintro e w2 ⟨g', a', rfl, q2⟩
    refine ⟨_, rfl, _, rp_swap q2, ?_⟩
    clear q1 q2
    repeat first
      | refine XC_region ?_
      | refine X_nil ?_
      | refine XC_condF rfl ?_
      | refine XC_seq ?_
      | refine XT_seq ?_
      | refine XC_skip ?_
      | refine Y_res (r_move rfl) rfl ?_
      | refine Y_res (r_assign rfl) rfl ?_
      | refine Y_res (r_gtr rfl rfl) rfl ?_
      | refine Y_res (r_neqNil rfl rfl) rfl ?_
      | refine Y_res (r_neqB rfl rfl) rfl ?_
      | refine Y_on rfl rfl ?_
      | refine Y_res (r_notB rfl) rfl ?_
      | refine Y_res (r_extract rfl rfl) rfl ?_
      | refine Y_res (r_pickF rfl rfl) rfl ?_
    refine Y_split rfl rfl (fun h1 => ?_) (fun h1 => ?_)
    · repeat first
        | refine XC_region ?_
        | refine X_nil ?_
        | refine XC_condT rfl ?_
        | refine XC_seq ?_
        | refine XT_seq ?_
        | refine XT_then_ret ?_
        | refine XC_ret ?_
        | refine Y_res (r_assign rfl) rfl ?_
        | refine Y_off rfl rfl rfl ?_
        | refine Y_res (r_pickT rfl rfl) rfl ?_
      exact XT_says (.inl rfl) Try.results7 rfl rfl
    cases hsm : smallB l with
    | false =>
      repeat first
        | refine XC_region ?_
        | refine X_nil ?_
        | refine XC_condT rfl ?_
        | refine XC_seq ?_
        | refine XT_seq ?_
        | refine XT_then_ret ?_
        | refine XC_ret ?_
        | refine Y_res (r_move rfl) rfl ?_
        | refine Y_res (r_assign rfl) rfl ?_
        | refine Y_on rfl rfl ?_
        | refine Y_res (r_notB rfl) rfl ?_
        | refine Y_res (r_pickF rfl rfl) rfl ?_
        | (refine Y_says (g := 15) rfl rfl (fun w1 hM => small_any l A c w1 (Ops.keep ⟨hA, hlc, hlm, hops.out⟩ hM.chg)) ?_; rw [hsm])
      exact XT_says (.inl rfl) Try.results7 rfl rfl
    | true =>
      obtain ⟨hl200, hsz⟩ := smallB_iff hsm
      have hsz := Lib.hid hsz
      repeat first
        | refine XC_region ?_
        | refine X_nil ?_
        | refine XC_condF rfl ?_
        | refine XC_seq ?_
        | refine XT_seq ?_
        | refine XC_block ?_
        | refine XC_skip ?_
        | refine Y_res (r_move rfl) rfl ?_
        | refine Y_on rfl rfl ?_
        | refine Y_res (r_notB rfl) rfl ?_
        | refine Y_res (r_len rfl) rfl ?_
        | refine Y_res (r_pickF rfl rfl) rfl ?_
        | (refine Y_says (g := 15) rfl rfl (fun w1 hM => small_any l A c w1 (Ops.keep ⟨hA, hlc, hlm, hops.out⟩ hM.chg)) ?_; rw [hsm])
      have hP0 : Pla n 0 (new0 n) (List.replicate n it0) [] := ⟨two_new (by omega) (by omega), rfl, Nat.le_refl _⟩
      have hn200 : n ≤ 200 := by omega
      generalize new0 n = p0 at *
      refine XC_loop (ι := Nat × (Ad × Rd) × Pl × List It × List (Nat × It)) (fun j => j.1 ≤ l.length ∧ Pla n j.1 j.2.2.1 j.2.2.2.1 j.2.2.2.2) (fun j => [(0, .int .i64 n), (5, .pointer (some ⟨g, 0, none⟩)), (6, .pointer (some ⟨g', 0, none⟩)), (39, .slice A l.length c), (40, .int .i64 l.length), (41, .int .i64 j.1)])
        (fun j => Hp w (fun _ => False) (PlC g j.2.1.1 j.2.2.1 (RfC g' j.2.1.2 j.2.2.1 j.2.2.2.1 j.2.2.2.2 []))) (fun j => l.length - j.1) (0, (a, a'), p0, List.replicate n it0, []) ⟨Nat.zero_le _, hP0⟩ ⟨rfl, rfl, rfl, rfl, rfl, rfl, trivial⟩ (fun _ h => h) ?_
      clear hP0
      rintro ⟨j, ⟨a, a'⟩, p, si, li⟩ ⟨hj, hP⟩
      dsimp only at hj hP ⊢
      repeat first
        | refine XC_region ?_
        | refine X_nil ?_
        | refine XC_seq ?_
        | refine XT_seq ?_
        | refine Y_res (r_lss rfl rfl) rfl ?_
      refine XC_condP rfl (fun hlt => ?_) (fun hge => ?_)
      · have hj2 : j < l.length := by omega
        have hA1 := hA (by omega)
        obtain ⟨o, ho⟩ : ∃ o, l[j]? = some o := ⟨l[j], List.getElem?_eq_getElem hj2⟩
        obtain ⟨hcell, hok⟩ := hops.out j o ho
        have hone := opC_one o
        have hz := hsz.out j o ho
        have hll := hP.ll
        repeat first
          | refine XC_region ?_
          | refine XC_seq ?_
          | refine XT_seq ?_
          | refine XC_block ?_
          | refine XC_skip ?_
          | refine Y_res (r_indexRs rfl rfl hA1 hj2) rfl ?_
          | refine Y_res (r_loadA (vs := opC o) rfl rfl (fun w1 hM j v hv => hM.old (hcell j v hv) (fun h => h))) rfl ?_
          | (refine X_allocB (zs := [.int .i64 0, .int .i64 0, .int .i64 0, .int .u8 0, .slice none 0 0]) rfl rfl ?_; intro _ _)
        rename_i go hgo
        refine X_storeW (vs := opC o) rfl rfl rfl (by rfl) hone ?_
        repeat first
          | refine X_nil ?_
          | refine XC_seq ?_
          | refine XT_seq ?_
        refine XC_held 29 (Hp w (fun _ => False) [Ch.blk go (opC o) 41]) rfl drw_hp (fun _ h => h.hd) ?_
        refine TE_reads [0, 1, 2] (by decide +kernel) (by decide +kernel) rfl ?_
        repeat first
          | refine Y_res (r_move rfl) rfl ?_
          | refine Y_res (r_loadW rfl (by rfl)) rfl ?_
          | refine Y_res (r_loadW (vs := opC o) rfl (by rfl)) rfl ?_
        refine XQ_nodeE ?_
        refine TE_one 3 (by decide +kernel) rfl rfl ?_
        refine X_call (g := 17) rfl rfl (fun w1 q1 => (stepB_any o (pr_in q1) hP.two (by omega) (by omega) hz hok).mono ?_)
        rintro e w2 ⟨a2, a2', si', li', r, rfl, hr, q2, hT2⟩
        obtain rfl := hr rfl
        have hP2 := hP.op (by omega) hok hT2
        clear hT2
        generalize opP p o = p2 at *
        refine ⟨_, rfl, _, pr_swap q2, ?_⟩
        clear q1 q2
        repeat first
          | refine X_nil ?_
          | refine XT_only ?_
        refine XT_nodeE (fun _ h => (pr_out (rp_swap h)).hd) ?_
        refine TE_re (Hp w (fun _ => False) (RfC g' a2' p2 si' li' (PlC g a2 p2 [Ch.blk go (opC o) 41]))) (fun _ h => (pr_out (rp_swap h)).hd) (fun _ h => h) ?_
        unfold RfC
        refine TE_reads [4, 5, 6, 8, 9, 10, 11] (by decide +kernel) (by decide +kernel) rfl ?_
        repeat first
          | refine Y_res (r_move rfl) rfl ?_
          | refine Y_on rfl rfl ?_
          | refine Y_res (r_notB rfl) rfl ?_
          | refine Y_res (r_field' rfl) rfl ?_
          | refine Y_res (r_nilCheck rfl) rfl ?_
          | refine Y_res (r_loadB rfl rfl) rfl ?_
        refine XQ_nodeE ?_
        refine TE_one 7 (by decide +kernel) rfl rfl ?_
        refine Y_on rfl rfl ?_
        refine X_call (g := 19) rfl rfl (fun w1 q1 => (down_any (rp_swap (g := g) (a := a2) (p := p2) (g' := g') (a' := a2') (q := p2) (si := si') (li := li') (es := [Ch.blk go (opC o) 41]) q1)).mono ?_)
        rintro e w2 ⟨rfl, q2⟩
        refine ⟨_, rfl, _, pr_swap q2, ?_⟩
        clear q1 q2
        repeat first
          | refine X_nil ?_
          | refine XT_only ?_
        refine XT_nodeE (fun _ h => h) ?_
        refine TE_reads [12, 13, 14, 15, 17, 18, 19, 20, 21] (by decide +kernel) (by decide +kernel) rfl ?_
        repeat first
          | refine Y_res (r_move rfl) rfl ?_
          | refine Y_res (r_neqB rfl rfl) rfl ?_
          | refine Y_on rfl rfl ?_
          | refine Y_res (r_len rfl) rfl ?_
          | refine Y_res (r_field' rfl) rfl ?_
          | refine Y_res (r_nilCheck rfl) rfl ?_
          | refine Y_res (r_loadB rfl rfl) rfl ?_
          | refine Y_res (r_pickF rfl rfl) rfl ?_
          | refine Y_splitB rfl rfl (fun h => absurd h (by simp)) (fun _ => ?_)
        refine XQ_nodeE ?_
        refine TE_one 16 (by decide +kernel) rfl rfl ?_
        refine Y_on rfl rfl ?_
        refine X_call (g := 13) rfl rfl (fun w1 q1 => (loose_any (rp_swap (g := g) (a := a2) (p := p2) (g' := g') (a' := a2') (q := p2) (si := si') (li := li') (es := [Ch.blk go (opC o) 41]) q1)).mono ?_)
        rintro e w2 ⟨rfl, q2⟩
        refine ⟨_, rfl, _, pr_swap q2, ?_⟩
        clear q1 q2
        repeat first
          | refine X_nil ?_
          | refine XT_only ?_
        refine XT_nodeE (fun _ h => h) ?_
        refine TE_reads [22, 23, 24, 25, 27] (by decide +kernel) (by decide +kernel) rfl ?_
        repeat first
          | refine Y_res (r_move rfl) rfl ?_
          | refine Y_res (r_neq rfl rfl) rfl ?_
          | refine Y_on rfl rfl ?_
          | refine Y_res (r_pickF rfl rfl) rfl ?_
          | refine Y_splitF rfl rfl (by simp) ?_
        refine XQ_nodeE ?_
        refine TE_one 26 (by decide +kernel) rfl rfl ?_
        refine Y_on rfl rfl ?_
        refine X_call (g := 23) rfl rfl (fun w1 q1 => (sectors_any (rp_swap (g := g) (a := a2) (p := p2) (g' := g') (a' := a2') (q := p2) (si := si') (li := li') (es := [Ch.blk go (opC o) 41]) q1)).mono ?_)
        rintro e w2 ⟨rfl, q2⟩
        refine ⟨_, rfl, _, pr_swap q2, ?_⟩
        clear q1 q2
        repeat first
          | refine X_nil ?_
          | refine XT_only ?_
        refine XT_nodeE (fun _ h => h) ?_
        refine TE_reads [28] (by decide +kernel) (by decide +kernel) rfl ?_
        repeat first
          | refine Y_res (r_neq rfl rfl) rfl ?_
          | refine Y_on rfl rfl ?_
        refine XQ_nodeE ?_
        refine TE_tail 29 (by decide +kernel) rfl rfl ?_
        repeat first
          | refine X_nil ?_
          | refine XT_only ?_
          | refine Y_res (r_pickF rfl rfl) rfl ?_
        refine XT_nodeW (TN_end (by decide +kernel) ?_)
        have hnn := hP2.nn
        repeat first
          | refine XT_seq ?_
        refine XC_condP rfl (fun hx => absurd (by rw [hnn]) hx) (fun _ => ?_)
        repeat first
          | refine XC_region ?_
          | refine X_nil ?_
          | refine XT_seq ?_
          | refine XT_block_normal ?_
          | refine XC_skip ?_
          | refine Y_res (r_move rfl) rfl ?_
          | refine Y_res (r_add64 rfl rfl (by omega)) rfl ?_
        exact XT_round (j + 1, (a2, a2'), p2, si', li') ⟨by dsimp only; omega, hP2⟩ (by dsimp only; omega) ⟨rfl, rfl, rfl, rfl, rfl, rfl, trivial⟩ (fun _ h => (pr_out (rp_swap h)).tail)
      · repeat first
          | refine XC_region ?_
          | refine XC_seq ?_
          | refine XT_seq ?_
          | refine XT_block_same rfl ?_
          | refine XT_then_exit ?_
          | refine XC_exit ?_
          | refine Y_res (r_move rfl) rfl ?_
        refine X_call (g := 14) rfl rfl (fun w1 q1 => (revive_any [] none 0 q1 hP.two.po (fun cs w1 h1 => RdV.nil_ w1 1)).mono ?_)
        rintro e w2 ⟨a2, rfl, q2⟩
        refine ⟨_, rfl, _, pr_swap q2, ?_⟩
        clear q1 q2
        repeat first
          | refine XC_region ?_
          | refine X_nil ?_
          | refine XC_seq ?_
          | refine XT_seq ?_
          | refine Y_res (r_move rfl) rfl ?_
        refine X_call (g := 24) rfl rfl (fun w1 q1 => (rrevive_any [] none 0 q1 hP.two.po hP.two.rf (fun cs w1 h1 => RdV.nil_ w1 1)).mono ?_)
        rintro e w2 ⟨a2', si', li', rfl, q2, hf⟩
        refine ⟨_, rfl, _, rp_swap q2, ?_⟩
        clear q1 q2
        have hpo := ok_rev hP.two.po []
        have hpn := pnow_rev p []
        have hnn : (revP p []).n = n := hP.nn
        clear hP
        generalize revP p [] = p2 at *
        repeat first
          | refine XC_region ?_
          | refine X_nil ?_
          | refine XC_seq ?_
          | refine XT_seq ?_
          | refine XC_block ?_
          | refine Y_res (r_move rfl) rfl ?_
        refine XC_loop (ι := Nat) (fun i => i ≤ n) (fun i => [(5, .pointer (some ⟨g, 0, none⟩)), (6, .pointer (some ⟨g', 0, none⟩)), (80, .int .i64 n), (81, .int .i64 i)]) (fun i => Hp w (fun _ => False) (PlC g a2 p2 (RfC g' a2' p2 si' li' []))) (fun i => n - i) 0 (Nat.zero_le _) ⟨rfl, rfl, rfl, rfl, trivial⟩ (fun _ h => h) ?_
        intro i hi
        repeat first
          | refine XC_region ?_
          | refine X_nil ?_
          | refine XC_seq ?_
          | refine XT_seq ?_
          | refine Y_res (r_lss rfl rfl) rfl ?_
        refine XC_condP rfl (fun hlt2 => ?_) (fun hge2 => ?_)
        · repeat first
            | refine XC_region ?_
            | refine X_nil ?_
            | refine XC_seq ?_
            | refine XT_seq ?_
            | refine XC_block ?_
            | refine XC_skip ?_
            | refine Y_res (r_move rfl) rfl ?_
            | refine Y_res (r_assign rfl) rfl ?_
          refine X_call (g := 12) rfl rfl (fun w1 q1 => (read_u (i : Nat) q1 hpo).mono ?_)
          rintro e w2 ⟨B, cap, rfl, q2⟩
          refine ⟨_, rfl, _, q2, ?_⟩
          clear q1 q2
          repeat first
            | refine XC_region ?_
            | refine X_nil ?_
            | refine XC_seq ?_
            | refine XT_seq ?_
            | refine Y_res (r_move rfl) rfl ?_
            | refine Y_res (r_assign rfl) rfl ?_
            | refine Y_res (r_extract rfl rfl) rfl ?_
          refine X_call (g := 25) rfl rfl (fun w1 q1 => (rread_u (i : Nat) (pr_swap (pr_in q1)) hpo hf hpn).mono ?_)
          rintro e w2 ⟨B2, cap2, rfl, q2⟩
          refine ⟨_, rfl, _, q2.of_perm (List.Perm.cons _ ((pRP g a2 p2 g' a2' p2 si' li' _).trans (pPRo g a2 p2 g' a2' p2 si' li' _ []))), ?_⟩
          clear q1 q2
          repeat first
            | refine XC_region ?_
            | refine X_nil ?_
            | refine XC_condF rfl ?_
            | refine XC_seq ?_
            | refine XT_seq ?_
            | refine XT_block_normal ?_
            | refine XC_skip ?_
            | refine Y_res (r_move rfl) rfl ?_
            | refine Y_res (r_assign rfl) rfl ?_
            | refine Y_res (r_add64 rfl rfl (by omega)) rfl ?_
            | refine Y_res (r_neq rfl rfl) rfl ?_
            | refine Y_on rfl rfl ?_
            | refine Y_res (r_notB rfl) rfl ?_
            | refine Y_res (r_extract rfl rfl) rfl ?_
            | refine Y_res (r_pickF rfl rfl) rfl ?_
            | refine Y_splitF rfl rfl (by simp) ?_
            | (refine Y_says (g := 21) rfl rfl (fun w1 hM => same_any _ _ _ _ _ _ w1 (rds_sl hM.tail.head) (rds_sl hM.head)) ?_; rw [decide_eq_true (show rdP p2 i = rdP p2 i from rfl)])
          exact XT_round (i + 1) (by omega) (by omega) ⟨rfl, rfl, rfl, rfl, trivial⟩ (fun _ h => h.tail.tail)
        repeat first
          | refine XC_region ?_
          | refine X_nil ?_
          | refine XC_seq ?_
          | refine XT_seq ?_
          | refine XT_block_same rfl ?_
          | refine XT_then_exit ?_
          | refine XC_exit ?_
          | refine XC_ret ?_
          | refine Y_res (r_assign rfl) rfl ?_
        exact XT_says (.inl rfl) Try.results7 rfl rfl
  · repeat first
      | refine XC_region ?_
      | refine X_nil ?_
      | refine XC_condT rfl ?_
      | refine XC_condF rfl ?_
      | refine XC_seq ?_
      | refine XT_seq ?_
      | refine XT_then_ret ?_
      | refine XC_skip ?_
      | refine XC_ret ?_
      | refine Y_res (r_move rfl) rfl ?_
      | refine Y_res (r_assign rfl) rfl ?_
      | refine Y_res (r_neqNil2 rfl rfl) rfl ?_
      | refine Y_res (r_neqB rfl rfl) rfl ?_
      | refine Y_off rfl rfl rfl ?_
      | refine Y_res (r_notB rfl) rfl ?_
      | refine Y_res (r_extract rfl rfl) rfl ?_
      | refine Y_res (r_pickT rfl rfl) rfl ?_
      | refine Y_says (g := 9) rfl rfl (fun w1 hM => new_out m w1 hin) ?_
      | refine Y_says (g := 16) rfl rfl (fun w1 hM => rnew_out m w1 hin) ?_
    exact XT_says (.inl rfl) Try.results7 rfl rfl
end Go.Proofs.Ytipikjikjjmmiaa.NPl
