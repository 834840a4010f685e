/- PlateClones, walked: true at every input. -/
import Derived.Test.YtipikjikjjmmiaaNPlPlays
namespace Go.Proofs.Ytipikjikjjmmiaa.NPl
open Go Go.RowKit Go.Proofs.Ytipikjikjjmmiaa.MX Go.Proofs.Ytipikjikjjmmiaa.NSame
set_option linter.unusedVariables false
set_option linter.unusedSimpArgs false
set_option linter.unusedVariables false
/-- Where two disks stand that aren't alike. -/
structure Plb (n i : Nat) (p q : Pl) (si : List It) (li : List (Nat × It)) : Prop where
  two : Two p q si li
  nn : p.n = n
  ll : p.loose.length ≤ i
  lq : q.loose.length ≤ i
theorem Plb.op {n i : Nat} {p q : Pl} {si si' : List It} {li li' : List (Nat × It)} {w : World} {o : OpD} (h : Plb n i p q si li) (hi : i ≤ 10000) (ho : OpOk w o) (h2 : Two (opP p o) (opP q o) si' li') : Plb n (i + 1) (opP p o) (opP q o) si' li' := by
  have hl := h.ll
  have hq := h.lq
  obtain ⟨k1, k2, k3⟩ := ok_op h.two.po (by omega) ho
  obtain ⟨k4, k5, k6⟩ := ok_op h.two.qo (by omega) ho
  exact ⟨h2, k2.trans h.nn, by omega, by omega⟩
/-- A program's disk and the document's, with two others behind. -/
theorem pl4 {g g1 g2 g3 : Nat} {a a2 : Ad} {a1 a3 : Rd} {p p1 p2 p3 : Pl} {si1 si3 : List It} {li1 li3 : List (Nat × It)} {w0 w : World} {TS : Nat → Prop} {es : List Ch}
    (h : Hp w0 TS (PlC g a p (RfC g1 a1 p1 si1 li1 (PlC g2 a2 p2 (RfC g3 a3 p3 si3 li3 es)))) w) : Hp w0 TS (PlC g2 a2 p2 (RfC g3 a3 p3 si3 li3 (PlC g a p (RfC g1 a1 p1 si1 li1 es)))) w :=
  h.of_perm (List.perm_append_comm_assoc (PlC g a p [] ++ RfC g1 a1 p1 si1 li1 []) (PlC g2 a2 p2 [] ++ RfC g3 a3 p3 si3 li3 []) es)
theorem pl4i {g g2 : Nat} {a a2 : Ad} {p p2 : Pl} {g1 : Nat} {a1 : Rd} {p1 : Pl} {si : List It} {li : List (Nat × It)} {w0 w : World} {TS : Nat → Prop} {es : List Ch}
    (h : Hp w0 TS (PlC g a p (PlC g2 a2 p2 (RfC g1 a1 p1 si li es))) w) : Hp w0 TS (PlC g2 a2 p2 (RfC g1 a1 p1 si li (PlC g a p es))) w :=
  h.of_perm (List.perm_append_comm_assoc (PlC g a p []) (PlC g2 a2 p2 [] ++ RfC g1 a1 p1 si li []) es)
set_option maxRecDepth 100000 in
set_option maxHeartbeats 8000000 in
theorem clones_any (m : Int) (l : List OpD) (A : Option Addr) (c : Nat) (l2 : List OpD) (A2 : Option Addr) (c2 : Nat) (l3 : List OpD) (A3 : Option Addr) (c3 : Nat) (w : World) (hm : (Lit.int .i64 m).wf = true) (h : shOps.has w [.slice A l.length c] (A, c, l)) (h2 : shOps.has w [.slice A2 l2.length c2] (A2, c2, l2)) (h3 : shOps.has w [.slice A3 l3.length c3] (A3, c3, l3)) :
    Calls Try.prog 4 #[.int .i64 m, .slice A l.length c, .slice A2 l2.length c2, .slice A3 l3.length c3] w fun e w' => e = .returned (.bool true) ∧ Chg (fun _ => False) w w' := by
  have hm64 := wf64 hm
  have hO := Lib.hid (ops_at h)
  have hO2 := Lib.hid (ops_at h2)
  have hO3 := Lib.hid (ops_at h3)
  have hlm := hO.out.lm
  have hlm2 := hO2.out.lm
  have hlm3 := hO3.out.lm
  clear h h2 h3
  refine calls_of_X (Rr := Says w (.bool true)) (vs := [_, _, _, _]) (M := Hp w (fun _ => False) []) Try.func4 rfl Try.ntmps4 rfl (Hp.nil _ _) ?_
  repeat first
    | refine XC_region ?_
    | refine X_nil ?_
    | refine XC_condF rfl ?_
    | refine XC_seq ?_
    | refine XT_seq ?_
    | refine XC_skip ?_
    | refine Y_res (r_move rfl) rfl ?_
    | refine Y_res (r_assign rfl) rfl ?_
    | refine Y_res (r_lss rfl rfl) rfl ?_
    | refine Y_res (r_notB rfl) rfl ?_
    | refine Y_says (g := 8) rfl rfl (fun w1 hM => anchor_any w1) ?_
  refine Y_split rfl rfl (fun h1 => ?_) (fun h1 => ?_)
  · repeat first
      | refine XC_region ?_
      | refine X_nil ?_
      | refine XC_condT rfl ?_
      | refine XC_seq ?_
      | refine XT_seq ?_
      | refine XT_then_ret ?_
      | refine XC_ret ?_
      | refine Y_res (r_move rfl) rfl ?_
      | refine Y_res (r_assign rfl) rfl ?_
      | refine Y_off rfl rfl rfl ?_
      | refine Y_res (r_pickT rfl rfl) rfl ?_
    exact XT_says (.inl rfl) Try.results4 rfl rfl
  repeat first
    | refine Y_res (r_move rfl) rfl ?_
    | refine Y_res (r_gtr rfl rfl) rfl ?_
    | refine Y_on rfl rfl ?_
    | refine Y_res (r_pickF rfl rfl) rfl ?_
  refine Y_split rfl rfl (fun h1 => ?_) (fun h1 => ?_)
  · repeat first
      | refine XC_region ?_
      | refine X_nil ?_
      | refine XC_condT rfl ?_
      | refine XC_seq ?_
      | refine XT_seq ?_
      | refine XT_then_ret ?_
      | refine XC_ret ?_
      | refine Y_res (r_move rfl) rfl ?_
      | refine Y_res (r_assign rfl) rfl ?_
      | refine Y_off rfl rfl rfl ?_
      | refine Y_res (r_pickT rfl rfl) rfl ?_
    exact XT_says (.inl rfl) Try.results4 rfl rfl
  repeat first
    | refine Y_res (r_move rfl) rfl ?_
    | refine Y_on rfl rfl ?_
  refine Y_says (g := 15) rfl rfl (fun w1 hM => small_any l A c w1 (hO.out.keep hM.chg)) ?_
  cases hs1 : smallB l with
  | false =>
    repeat first
      | refine XC_region ?_
      | refine X_nil ?_
      | refine XC_condT rfl ?_
      | refine XC_seq ?_
      | refine XT_seq ?_
      | refine XT_then_ret ?_
      | refine XC_ret ?_
      | refine Y_res (r_move rfl) rfl ?_
      | refine Y_res (r_assign rfl) rfl ?_
      | refine Y_on rfl rfl ?_
      | refine Y_off rfl rfl rfl ?_
      | refine Y_res (r_notB rfl) rfl ?_
      | refine Y_res (r_pickT rfl rfl) rfl ?_
      | refine Y_res (r_pickF rfl rfl) rfl ?_
    exact XT_says (.inl rfl) Try.results4 rfl rfl
  | true =>
  repeat first
    | refine Y_res (r_move rfl) rfl ?_
    | refine Y_on rfl rfl ?_
    | refine Y_res (r_notB rfl) rfl ?_
    | refine Y_res (r_pickF rfl rfl) rfl ?_
  refine Y_says (g := 15) rfl rfl (fun w1 hM => small_any l2 A2 c2 w1 (hO2.out.keep hM.chg)) ?_
  cases hs2 : smallB l2 with
  | false =>
    repeat first
      | refine XC_region ?_
      | refine X_nil ?_
      | refine XC_condT rfl ?_
      | refine XC_seq ?_
      | refine XT_seq ?_
      | refine XT_then_ret ?_
      | refine XC_ret ?_
      | refine Y_res (r_move rfl) rfl ?_
      | refine Y_res (r_assign rfl) rfl ?_
      | refine Y_on rfl rfl ?_
      | refine Y_off rfl rfl rfl ?_
      | refine Y_res (r_notB rfl) rfl ?_
      | refine Y_res (r_pickT rfl rfl) rfl ?_
      | refine Y_res (r_pickF rfl rfl) rfl ?_
    exact XT_says (.inl rfl) Try.results4 rfl rfl
  | true =>
  repeat first
    | refine Y_res (r_move rfl) rfl ?_
    | refine Y_on rfl rfl ?_
    | refine Y_res (r_notB rfl) rfl ?_
    | refine Y_res (r_pickF rfl rfl) rfl ?_
  refine Y_says (g := 15) rfl rfl (fun w1 hM => small_any l3 A3 c3 w1 (hO3.out.keep hM.chg)) ?_
  cases hs3 : smallB l3 with
  | false =>
    repeat first
      | refine XC_region ?_
      | refine X_nil ?_
      | refine XC_condT rfl ?_
      | refine XC_seq ?_
      | refine XT_seq ?_
      | refine XT_then_ret ?_
      | refine XC_ret ?_
      | refine Y_res (r_assign rfl) rfl ?_
      | refine Y_on rfl rfl ?_
      | refine Y_res (r_notB rfl) rfl ?_
      | refine Y_res (r_pickF rfl rfl) rfl ?_
    exact XT_says (.inl rfl) Try.results4 rfl rfl
  | true =>
  repeat first
    | refine XC_region ?_
    | refine X_nil ?_
    | refine XC_condF rfl ?_
    | refine XC_seq ?_
    | refine XT_seq ?_
    | refine XC_skip ?_
    | refine Y_res (r_move rfl) rfl ?_
    | refine Y_on rfl rfl ?_
    | refine Y_res (r_notB rfl) rfl ?_
    | refine Y_res (r_pickF rfl rfl) rfl ?_
  obtain ⟨k1, z1⟩ := smallB_iff hs1
  obtain ⟨k2, z2⟩ := smallB_iff hs2
  obtain ⟨k3, z3⟩ := smallB_iff hs3
  have z1 := Lib.hid z1
  have z2 := Lib.hid z2
  have z3 := Lib.hid z3
  clear hs1 hs2 hs3
  obtain ⟨n, rfl⟩ : ∃ n : Nat, m = n := ⟨m.toNat, by omega⟩
  refine X_call (g := 9) rfl rfl (fun w1 q1 => (new_es n q1 (by omega) (by omega)).mono ?_)
  rintro e w2 ⟨g, a, rfl, q2⟩
  refine ⟨_, rfl, _, q2, ?_⟩
  clear q1 q2
  repeat first
    | refine XC_region ?_
    | refine X_nil ?_
    | refine XC_seq ?_
    | refine XT_seq ?_
    | refine Y_res (r_move rfl) rfl ?_
    | refine Y_res (r_assign rfl) rfl ?_
  refine X_call (g := 16) rfl rfl (fun w1 q1 => (rnew_es n q1 (by omega) (by omega)).mono ?_)
  rintro e w2 ⟨g', a', rfl, q2⟩
  refine ⟨_, rfl, _, rp_swap q2, ?_⟩
  clear q1 q2
  repeat first
    | refine XC_region ?_
    | refine X_nil ?_
    | refine XC_condF rfl ?_
    | refine XC_seq ?_
    | refine XT_seq ?_
    | refine XC_block ?_
    | refine XC_skip ?_
    | refine Y_res (r_move rfl) rfl ?_
    | refine Y_res (r_assign rfl) rfl ?_
    | refine Y_res (r_eqlNil rfl rfl) rfl ?_
    | refine Y_res (r_len rfl) rfl ?_
    | refine Y_res (r_extract rfl rfl) rfl ?_
  have hP0 : Pla n 0 (new0 n) (List.replicate n it0) [] := ⟨two_new (by omega) (by omega), rfl, Nat.le_refl _⟩
  obtain ⟨p0, hp0⟩ : ∃ p0, p0 = new0 n := ⟨_, rfl⟩
  rw [← hp0] at hP0 ⊢
  clear hp0
  refine XC_loop (ι := Nat × (Ad × Rd) × Pl × List It × List (Nat × It)) (fun j => j.1 ≤ l.length ∧ Pla n j.1 j.2.2.1 j.2.2.2.1 j.2.2.2.2) (fun j => [(0, .int .i64 n), (2, .slice A2 l2.length c2), (3, .slice A3 l3.length c3), (9, .pointer (some ⟨g, 0, none⟩)), (10, .pointer (some ⟨g', 0, none⟩)), (53, .slice A l.length c), (54, .int .i64 l.length), (55, .int .i64 j.1)])
    (fun j => Hp w (fun _ => False) (PlC g j.2.1.1 j.2.2.1 (RfC g' j.2.1.2 j.2.2.1 j.2.2.2.1 j.2.2.2.2 []))) (fun j => l.length - j.1) (0, (a, a'), p0, List.replicate n it0, []) ⟨Nat.zero_le _, hP0⟩ ⟨rfl, rfl, rfl, rfl, rfl, rfl, rfl, rfl, trivial⟩ (fun _ h => h) ?_
  clear hP0
  rintro ⟨j, ⟨a, a'⟩, p, si, li⟩ ⟨hj, hP⟩
  dsimp only at hj hP ⊢
  repeat first
    | refine XC_region ?_
    | refine X_nil ?_
    | refine XC_seq ?_
    | refine XT_seq ?_
    | refine Y_res (r_lss rfl rfl) rfl ?_
  refine XC_condP rfl (fun hlt => ?_) (fun hge => ?_)
  · have hj2 : j < l.length := by omega
    have hA1 := hO.out.ad (by omega)
    obtain ⟨o, ho⟩ : ∃ o, l[j]? = some o := ⟨l[j], List.getElem?_eq_getElem hj2⟩
    obtain ⟨hcell, hok⟩ := hO.out.at_ j o ho
    have hone := opC_one o
    have hz := z1.out j o ho
    have hll := hP.ll
    repeat first
      | refine XC_region ?_
      | refine XC_seq ?_
      | refine XT_seq ?_
      | refine XC_block ?_
      | refine XC_skip ?_
      | refine Y_res (r_indexRs rfl rfl hA1 hj2) rfl ?_
      | refine Y_res (r_loadA (vs := opC o) rfl rfl (fun w1 hM j v hv => hM.old (hcell j v hv) (fun h => h))) rfl ?_
      | (refine X_allocB (zs := [.int .i64 0, .int .i64 0, .int .i64 0, .int .u8 0, .slice none 0 0]) rfl rfl ?_; intro _ _)
    rename_i go hgo
    refine X_storeW (vs := opC o) rfl rfl rfl (by rfl) hone ?_
    repeat first
      | refine XC_region ?_
      | refine X_nil ?_
      | refine XC_seq ?_
      | refine XT_seq ?_
      | refine Y_res (r_move rfl) rfl ?_
      | refine Y_res (r_loadW rfl (by rfl)) rfl ?_
      | refine Y_res (r_loadW (vs := opC o) rfl (by rfl)) rfl ?_
    refine X_call (g := 17) rfl rfl (fun w1 q1 => (stepB_any o (pr_in q1) hP.two (by omega) (by omega) hz hok).mono ?_)
    rintro e w2 ⟨a2, a2', si', li', r, rfl, hr, q2, hT2⟩
    obtain rfl := hr rfl
    have hP2 := hP.op (by omega) hok hT2
    clear hT2
    generalize opP p o = p2 at *
    refine ⟨_, rfl, _, pr_out q2, ?_⟩
    clear q1 q2
    repeat first
      | refine XC_region ?_
      | refine X_nil ?_
      | refine XC_condF rfl ?_
      | refine XT_seq ?_
      | refine XT_block_normal ?_
      | refine XC_skip ?_
      | refine Y_res (r_move rfl) rfl ?_
      | refine Y_res (r_add64 rfl rfl (by omega)) rfl ?_
      | refine Y_res (r_notB rfl) rfl ?_
    exact XT_round (j + 1, (a2, a2'), p2, si', li') ⟨by dsimp only; omega, hP2⟩ (by dsimp only; omega) ⟨rfl, rfl, rfl, rfl, rfl, rfl, rfl, rfl, trivial⟩ (fun _ h => h.tail)
  have hll := hP.ll
  repeat first
    | refine XC_region ?_
    | refine XC_seq ?_
    | refine XT_seq ?_
    | refine XT_block_same rfl ?_
    | refine XT_then_exit ?_
    | refine XC_exit ?_
    | refine Y_res (r_move rfl) rfl ?_
  refine X_call (g := 18) rfl rfl (fun w1 q1 => (clone_any q1 hP.two.po).mono ?_)
  rintro e w2 ⟨g2, a2, rfl, q2⟩
  refine ⟨_, rfl, _, pl4i q2, ?_⟩
  clear q1 q2
  repeat first
    | refine XC_region ?_
    | refine X_nil ?_
    | refine XC_condF rfl ?_
    | refine XC_seq ?_
    | refine XT_seq ?_
    | refine XC_skip ?_
    | refine Y_res (r_move rfl) rfl ?_
    | refine Y_res (r_assign rfl) rfl ?_
    | refine Y_res (r_eqlNil rfl rfl) rfl ?_
  refine X_call (g := 16) rfl rfl (fun w1 q1 => (rnew_es n q1 (by omega) (by omega)).mono ?_)
  rintro e w2 ⟨g3, a3, rfl, q2⟩
  refine ⟨_, rfl, _, q2.of_perm (List.perm_append_comm_assoc (RfC g3 a3 (new0 n) (List.replicate n it0) [] []) (PlC g2 a2 p [] ++ RfC g' a' p si li [] ++ PlC g a p []) []), ?_⟩
  clear q1 q2
  refine X_mem (M' := Hp w (fun _ => False) (PlC g a p (RfC g3 a3 (new0 n) (List.replicate n it0) [] (PlC g2 a2 p (RfC g' a' p si li []))))) (fun _ h => h.of_perm (List.perm_append_comm_assoc (PlC g2 a2 p [] ++ RfC g' a' p si li []) (PlC g a p [] ++ RfC g3 a3 (new0 n) (List.replicate n it0) [] []) [])) ?_
  repeat first
    | refine XC_region ?_
    | refine X_nil ?_
    | refine XC_seq ?_
    | refine XT_seq ?_
    | refine XC_block ?_
    | refine Y_res (r_move rfl) rfl ?_
    | refine Y_res (r_assign rfl) rfl ?_
    | refine Y_res (r_len rfl) rfl ?_
    | refine Y_res (r_extract rfl rfl) rfl ?_
  obtain ⟨j1, hj1e⟩ : ∃ j1, j1 = j := ⟨_, rfl⟩
  have hll200 : p.loose.length ≤ 200 := by omega
  have hT0 := two_new (n := n) (by omega) (by omega)
  have hQ0 : Plb n 200 p (new0 n) (List.replicate n it0) [] := ⟨⟨hP.two.po, hT0.qo, hT0.rf, hT0.nw, hP.nn⟩, hP.nn, by omega, by show 0 ≤ _; omega⟩
  obtain ⟨p0, hp0⟩ : ∃ p0, p0 = new0 n := ⟨_, rfl⟩
  rw [← hp0] at hQ0 ⊢
  clear hp0 hT0
  refine XC_loop (ι := Nat × (Ad × Rd) × (Pl × Pl) × List It × List (Nat × It)) (fun j => j.1 ≤ l3.length ∧ Plb n (200 + j.1) j.2.2.1.1 j.2.2.1.2 j.2.2.2.1 j.2.2.2.2) (fun j => [(2, .slice A2 l2.length c2), (9, .pointer (some ⟨g, 0, none⟩)), (10, .pointer (some ⟨g', 0, none⟩)), (14, .pointer (some ⟨g2, 0, none⟩)), (15, .pointer (some ⟨g3, 0, none⟩)), (74, .slice A3 l3.length c3), (75, .int .i64 l3.length), (76, .int .i64 j.1)])
    (fun j => Hp w (fun _ => False) (PlC g j.2.1.1 j.2.2.1.1 (RfC g3 j.2.1.2 j.2.2.1.2 j.2.2.2.1 j.2.2.2.2 (PlC g2 a2 p (RfC g' a' p si li []))))) (fun j => l3.length - j.1) (0, (a, a3), (p, p0), List.replicate n it0, []) ⟨Nat.zero_le _, hQ0⟩ ⟨rfl, rfl, rfl, rfl, rfl, rfl, rfl, rfl, trivial⟩ (fun _ h => h) ?_
  clear hQ0
  have hPs := hP
  clear hP hj hge hll hj1e
  rintro ⟨j, ⟨a4, a5⟩, ⟨p4, p5⟩, si5, li5⟩ ⟨hj, hP⟩
  dsimp only at hj hP ⊢
  repeat first
    | refine XC_region ?_
    | refine X_nil ?_
    | refine XC_seq ?_
    | refine XT_seq ?_
    | refine Y_res (r_lss rfl rfl) rfl ?_
  refine XC_condP rfl (fun hlt => ?_) (fun hge => ?_)
  · have hj2 : j < l3.length := by omega
    have hA1 := hO3.out.ad (by omega)
    obtain ⟨o, ho⟩ : ∃ o, l3[j]? = some o := ⟨l3[j], List.getElem?_eq_getElem hj2⟩
    obtain ⟨hcell, hok⟩ := hO3.out.at_ j o ho
    have hone := opC_one o
    have hz := z3.out j o ho
    have hll := hP.ll
    have hlq := hP.lq
    repeat first
      | refine XC_region ?_
      | refine XC_seq ?_
      | refine XT_seq ?_
      | refine XC_block ?_
      | refine XC_skip ?_
      | refine Y_res (r_indexRs rfl rfl hA1 hj2) rfl ?_
      | refine Y_res (r_loadA (vs := opC o) rfl rfl (fun w1 hM j v hv => hM.old (hcell j v hv) (fun h => h))) rfl ?_
      | (refine X_allocB (zs := [.int .i64 0, .int .i64 0, .int .i64 0, .int .u8 0, .slice none 0 0]) rfl rfl ?_; intro _ _)
    rename_i go hgo
    refine X_storeW (vs := opC o) rfl rfl rfl (by rfl) hone ?_
    repeat first
      | refine XC_region ?_
      | refine X_nil ?_
      | refine XT_seq ?_
      | refine Y_res (r_move rfl) rfl ?_
      | refine Y_res (r_loadW rfl (by rfl)) rfl ?_
      | refine Y_res (r_loadW (vs := opC o) rfl (by rfl)) rfl ?_
    refine X_call (g := 17) rfl rfl (fun w1 q1 => (stepB_any o (pr_in q1) hP.two (by omega) (by omega) hz hok).mono ?_)
    rintro e w2 ⟨a2, a2', si', li', r, rfl, hr, q2, hT2⟩
    have hP2 := hP.op (by omega) hok hT2
    clear hT2
    generalize opP p4 o = p6 at *
    generalize opP p5 o = p7 at *
    refine ⟨_, rfl, _, pr_out q2, ?_⟩
    clear q1 q2
    repeat first
      | refine XC_region ?_
      | refine X_nil ?_
      | refine XT_seq ?_
      | refine XT_block_normal ?_
      | refine Y_res (r_move rfl) rfl ?_
      | refine Y_res (r_add64 rfl rfl (by omega)) rfl ?_
    exact XT_round (j + 1, (a2, a2'), (p6, p7), si', li') ⟨by dsimp only; omega, hP2⟩ (by dsimp only; omega) ⟨rfl, rfl, rfl, rfl, rfl, rfl, rfl, rfl, trivial⟩ (fun _ h => h.tail)
  refine XC_mem (M' := Hp w (fun _ => False) (PlC g2 a2 p (RfC g' a' p si li (PlC g a4 p4 (RfC g3 a5 p5 si5 li5 []))))) (fun _ h => pl4 h) ?_
  repeat first
    | refine XC_region ?_
    | refine X_nil ?_
    | refine XC_seq ?_
    | refine XT_seq ?_
    | refine XC_block ?_
    | refine XT_block_same rfl ?_
    | refine XT_then_exit ?_
    | refine XC_exit ?_
    | refine Y_res (r_move rfl) rfl ?_
    | refine Y_res (r_len rfl) rfl ?_
  have hR0 : Pla n (200 + 0) p si li := ⟨hPs.two, hPs.nn, by omega⟩
  clear hPs hP hj hge hll200
  refine XC_loop (ι := Nat × (Ad × Rd) × Pl × List It × List (Nat × It)) (fun j => j.1 ≤ l2.length ∧ Pla n (200 + j.1) j.2.2.1 j.2.2.2.1 j.2.2.2.2) (fun j => [(10, .pointer (some ⟨g', 0, none⟩)), (14, .pointer (some ⟨g2, 0, none⟩)), (85, .slice A2 l2.length c2), (86, .int .i64 l2.length), (87, .int .i64 j.1)])
    (fun j => Hp w (fun _ => False) (PlC g2 j.2.1.1 j.2.2.1 (RfC g' j.2.1.2 j.2.2.1 j.2.2.2.1 j.2.2.2.2 (PlC g a4 p4 (RfC g3 a5 p5 si5 li5 []))))) (fun j => l2.length - j.1) (0, (a2, a'), p, si, li) ⟨Nat.zero_le _, hR0⟩ ⟨rfl, rfl, rfl, rfl, rfl, trivial⟩ (fun _ h => h) ?_
  clear hR0
  rintro ⟨j, ⟨a8, a9⟩, p8, si8, li8⟩ ⟨hj, hP⟩
  dsimp only at hj hP ⊢
  repeat first
    | refine XC_region ?_
    | refine X_nil ?_
    | refine XC_seq ?_
    | refine XT_seq ?_
    | refine Y_res (r_lss rfl rfl) rfl ?_
  refine XC_condP rfl (fun hlt => ?_) (fun hge => ?_)
  · have hj2 : j < l2.length := by omega
    have hA1 := hO2.out.ad (by omega)
    obtain ⟨o, ho⟩ : ∃ o, l2[j]? = some o := ⟨l2[j], List.getElem?_eq_getElem hj2⟩
    obtain ⟨hcell, hok⟩ := hO2.out.at_ j o ho
    have hone := opC_one o
    have hz := z2.out j o ho
    have hll := hP.ll
    repeat first
      | refine XC_region ?_
      | refine XC_seq ?_
      | refine XT_seq ?_
      | refine XC_block ?_
      | refine XC_skip ?_
      | refine Y_res (r_indexRs rfl rfl hA1 hj2) rfl ?_
      | refine Y_res (r_loadA (vs := opC o) rfl rfl (fun w1 hM j v hv => hM.old (hcell j v hv) (fun h => h))) rfl ?_
      | (refine X_allocB (zs := [.int .i64 0, .int .i64 0, .int .i64 0, .int .u8 0, .slice none 0 0]) rfl rfl ?_; intro _ _)
    rename_i go hgo
    refine X_storeW (vs := opC o) rfl rfl rfl (by rfl) hone ?_
    repeat first
      | refine XC_region ?_
      | refine X_nil ?_
      | refine XC_seq ?_
      | refine XT_seq ?_
      | refine Y_res (r_move rfl) rfl ?_
      | refine Y_res (r_loadW rfl (by rfl)) rfl ?_
      | refine Y_res (r_loadW (vs := opC o) rfl (by rfl)) rfl ?_
    refine X_call (g := 17) rfl rfl (fun w1 q1 => (stepB_any o (pr_in q1) hP.two (by omega) (by omega) hz hok).mono ?_)
    rintro e w2 ⟨a10, a11, si', li', r, rfl, hr, q2, hT2⟩
    obtain rfl := hr rfl
    have hP2 := hP.op (by omega) hok hT2
    clear hT2
    generalize opP p8 o = p2 at *
    refine ⟨_, rfl, _, pr_out q2, ?_⟩
    clear q1 q2
    repeat first
      | refine XC_region ?_
      | refine X_nil ?_
      | refine XC_condF rfl ?_
      | refine XT_seq ?_
      | refine XT_block_normal ?_
      | refine XC_skip ?_
      | refine Y_res (r_move rfl) rfl ?_
      | refine Y_res (r_add64 rfl rfl (by omega)) rfl ?_
      | refine Y_res (r_notB rfl) rfl ?_
    exact XT_round (j + 1, (a10, a11), p2, si', li') ⟨by dsimp only; omega, hP2⟩ (by dsimp only; omega) ⟨rfl, rfl, rfl, rfl, rfl, trivial⟩ (fun _ h => h.tail)
  refine XC_mem (M' := Hp w (fun _ => False) (RfC g' a9 p8 si8 li8 (PlC g2 a8 p8 (PlC g a4 p4 (RfC g3 a5 p5 si5 li5 []))))) (fun _ h => pr_swap h) ?_
  unfold RfC
  repeat first
    | refine XC_quietF rfl (by kernel_rfl) (by kernel_rfl) drw_hp ?_
    | refine XQ_nil ?_
    | refine XC_seq ?_
    | refine XT_seq ?_
    | refine XT_block_same rfl ?_
    | refine XT_then_exit ?_
    | refine XC_exit ?_
    | refine XC_ret ?_
    | refine Y_res (r_move rfl) rfl ?_
    | refine Y_res (r_assign rfl) rfl ?_
    | refine Y_res (r_eql rfl rfl) rfl ?_
    | refine Y_res (r_eqlB rfl rfl) rfl ?_
    | refine Y_on rfl rfl ?_
    | refine Y_res (r_len rfl) rfl ?_
    | refine Y_res (r_field' rfl) rfl ?_
    | refine Y_res (r_nilCheck rfl) rfl ?_
    | refine Y_res (r_loadB rfl rfl) rfl ?_
    | refine Y_res (r_pickT rfl rfl) rfl ?_
    | refine Y_call (g := 13) rfl rfl (fun w1 hM => (loose_any (rp_swap (g := g2) (a := a8) (p := p8) (g' := g') (a' := a9) (q := p8) (si := si8) (li := li8) (es := PlC g a4 p4 (RfC g3 a5 p5 si5 li5 [])) hM)).mono fun e w2 h => ⟨h.1, pr_swap h.2⟩) ?_
    | refine Y_splitT rfl rfl rfl ?_
    | refine Y_call (g := 19) rfl rfl (fun w1 hM => (down_any (rp_swap (g := g2) (a := a8) (p := p8) (g' := g') (a' := a9) (q := p8) (si := si8) (li := li8) (es := PlC g a4 p4 (RfC g3 a5 p5 si5 li5 [])) hM)).mono fun e w2 h => ⟨h.1, pr_swap h.2⟩) ?_
  exact XT_says (.inl rfl) Try.results4 rfl (by simp)
end Go.Proofs.Ytipikjikjjmmiaa.NPl
