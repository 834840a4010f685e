/- FeedPlays, walked: true at every input. -/
import Derived.Test.YtfkhdhdbfejbpaaNFdBx
import Derived.Lib.Hide
namespace Go.Proofs.Ytfkhdhdbfejbpaa.Fd
open Go Go.RowKit Go.Proofs.Ytfkhdhdbfejbpaa.MX Go.Proofs.Ytfkhdhdbfejbpaa.PFd
set_option linter.unusedVariables false
set_option linter.unusedSimpArgs false
set_option linter.unusedVariables false
theorem bag_nil {w w0 : World} {TS : Nat → Prop} {es : List Ch} {js : List It} (h : Hp w0 TS (Ch.bagN js :: es) w) : Hp w0 TS (Ch.bagN (js ++ [itI .i64 none 0 []]) :: es) w := by
  have h1 := ((h.nilV 0 1).bagNV).bagNSub (jts := js ++ [itI .i64 none 0 []]) (fun it hit => by
    rw [List.mem_append, List.mem_singleton] at hit
    rcases hit with hit | rfl
    · exact List.mem_cons_of_mem _ hit
    · exact List.mem_cons_self ..)
  exact h1
abbrev St := ((Option Addr × Nat) × List Bx) × (Option Addr × Nat) × List (Option Rd)
def StC (gf : Nat) (s : St) (es : List Ch) : List Ch := BxM s.1.1.1 s.1.1.2 s.1.2 (FdCI gf s.2.1.1 s.2.1.2 s.2.2 es)
structure StOk (n : Nat) (s : St) : Prop where
  rl : Rels n s.1.2 s.2.2
  ln : s.1.2.length ≤ n
theorem find_gone {n : Nat} {bs : List Bx} {rs : List (Option Rd)} (h : Rels n bs rs) {k : Nat} {b : Bx} (hb : bs[k]? = some b) : (findO rs ((k : Int) + 1)).isSome = !b.gone := by
  have hk := (List.getElem?_eq_some_iff.1 hb).1
  obtain ⟨b', o, h1, h2, h3⟩ := h.get hk
  rw [hb] at h1
  obtain rfl := Option.some.inj h1
  rw [findO_in (by rw [← h.ln]; exact hk), List.getD_eq_getElem?_getD, h2]
  cases o with
  | none => rw [h3.1]; rfl
  | some x => rw [h3.1]; rfl
set_option maxRecDepth 100000 in
set_option maxHeartbeats 8000000 in
theorem plays_law (l : List OpD) (A : Option Addr) (c : Nat) (w : World) (h : shOps.has w [.slice A l.length c] (A, c, l)) :
    Calls Try.prog 5 #[.slice A l.length c] w fun e w' => e = .returned (.bool true) ∧ Chg (fun _ => False) w w' := by
  obtain ⟨hA, hlc, hcm, hops⟩ := ops_at h
  have hops := Lib.hid hops
  clear h
  refine calls_of_X (Rr := Says w (.bool true)) (vs := [_]) (M := Hp w (fun _ => False) []) Try.func5 rfl Try.ntmps5 rfl (Hp.nil _ _) ?_
  repeat first
    | refine XC_region ?_
    | refine X_nil ?_
    | refine XC_condF rfl ?_
    | refine XC_seq ?_
    | refine XT_seq ?_
    | refine XC_skip ?_
    | refine Y_res (r_assign rfl) rfl ?_
    | refine Y_res (r_notB rfl) rfl ?_
    | refine Y_says (g := 6) rfl rfl (fun w1 hM => anchor_any w1) ?_
  refine X_call (g := 13) rfl rfl (fun w1 q1 => (newI_any q1).mono ?_)
  rintro e w2 ⟨gf, rfl, q2⟩
  refine ⟨_, rfl, _, q2, ?_⟩
  clear q1 q2
  repeat first
    | refine XC_region ?_
    | refine X_nil ?_
    | refine XC_condF rfl ?_
    | refine XC_seq ?_
    | refine XT_seq ?_
    | refine XC_skip ?_
    | refine Y_res (r_move rfl) rfl ?_
    | refine Y_res (r_assign rfl) rfl ?_
    | refine Y_res (r_gtr rfl rfl) rfl ?_
    | refine Y_res (r_eqlNil rfl rfl) rfl ?_
    | refine Y_res (r_len rfl) rfl ?_
  refine XC_condP rfl (fun h1 => ?_) (fun h1 => ?_)
  · repeat first
      | refine XC_region ?_
      | refine X_nil ?_
      | refine XC_seq ?_
      | refine XT_seq ?_
      | refine XT_then_ret ?_
      | refine XC_ret ?_
      | refine Y_res (r_assign rfl) rfl ?_
    exact XT_says (.inl rfl) Try.results5 rfl rfl
  have hl300 : l.length ≤ 300 := by omega
  repeat first
    | refine XC_region ?_
    | refine X_nil ?_
    | refine XC_seq ?_
    | refine XT_seq ?_
    | refine XC_block ?_
    | refine XC_skip ?_
    | refine Y_res (r_move rfl) rfl ?_
    | refine Y_res (r_assign rfl) rfl ?_
    | refine Y_res (r_len rfl) rfl ?_
  refine XC_loop (ι := Nat × St) (fun j => j.1 ≤ l.length ∧ StOk j.1 j.2) (fun j => [(3, .pointer (some ⟨gf, 0, none⟩)), (4, .slice j.2.1.1.1 j.2.1.2.length j.2.1.1.2), (24, .slice A l.length c), (25, .int .i64 l.length), (26, .int .i64 j.1)])
    (fun j => Hp w (fun _ => False) (StC gf j.2 [])) (fun j => l.length - j.1) (0, ((none, 0), []), (none, 0), []) ⟨Nat.zero_le _, ⟨⟨rfl, fun i b o h => by simp at h⟩, Nat.zero_le _⟩⟩ ⟨rfl, rfl, rfl, rfl, rfl, trivial⟩ (fun _ h => h.bagN0.nilV _ _) ?_
  rintro ⟨i, ⟨⟨Al, cl⟩, bs⟩, ⟨Af, cf⟩, rs⟩ ⟨hi, hS⟩
  dsimp only at hi ⊢
  obtain ⟨hR, hbl⟩ := hS
  dsimp only at hR hbl
  have hrl := hR.ln
  unfold StC
  try dsimp only
  repeat first
    | refine XC_region ?_
    | refine X_nil ?_
    | refine XC_seq ?_
    | refine XT_seq ?_
    | refine Y_res (r_lss rfl rfl) rfl ?_
  refine XC_condP rfl (fun hlt => ?_) (fun hge => ?_)
  · have hi2 : i < l.length := by omega
    have hA1 := hA (by omega)
    obtain ⟨o, ho⟩ : ∃ o, l[i]? = some o := ⟨l[i], List.getElem?_eq_getElem hi2⟩
    obtain ⟨hcell, hw1, hw2, hw3⟩ := hops.out i o ho
    obtain ⟨kd, N, V, un⟩ := o
    dsimp only at hw1 hw2 hw3
    have hN64 := wf64 hw2
    have hV64 := wf64 hw3
    clear hw1 hw2 hw3 ho
    repeat first
      | refine XC_region ?_
      | refine XC_seq ?_
      | refine XT_seq ?_
      | refine XC_block ?_
      | refine XC_skip ?_
      | refine Y_res (r_indexRs rfl rfl hA1 hi2) rfl ?_
      | refine Y_res (r_loadA (vs := opC (kd, N, V, un)) rfl rfl (fun w1 hM j v hv => hM.old (hcell j v hv) (fun h => h))) rfl ?_
      | (refine X_allocB (zs := [.int .i64 0, .int .i64 0, .int .i64 0]) rfl rfl ?_; intro _ _)
    rename_i go hgo
    refine X_storeW (vs := opC (kd, N, V, un)) rfl rfl rfl (by rfl) (by simp [opC, Value.oneCell']) ?_
    clear hcell
    unfold opC
    try dsimp only
    repeat first
      | refine X_nil ?_
      | refine XC_seq ?_
      | refine XT_seq ?_
    refine XC_region ?_
    repeat first
      | refine X_nil ?_
      | refine XC_seq ?_
      | refine XT_seq ?_
      | refine Y_res (r_assign rfl) rfl ?_
      | refine Y_res (r_field' rfl) rfl ?_
      | refine Y_res (r_loadB rfl rfl) rfl ?_
      | refine Y_res (r_sub rfl rfl) rfl ?_
    refine XC_mid (ι := Unit) (fun _ => True) (fun _ => [(3, .pointer (some ⟨gf, 0, none⟩)), (4, .slice Al bs.length cl), (6, .pointer (some ⟨go, 0, none⟩)), (7, .int .i64 (IntKind.i64.wrap (N - 1))), (8, .bool (findO rs N).isSome), (24, .slice A l.length c), (25, .int .i64 l.length), (26, .int .i64 i)])
      (fun _ => Hp w (fun _ => False) (Ch.blk go [.int .i64 kd, .int .i64 N, .int .i64 V] 41 :: BxM Al cl bs (FdCI gf Af cf rs []))) ?_ ?_
    · by_cases hN1 : 1 ≤ N
      · by_cases hN2 : N ≤ bs.length
        · obtain ⟨k, rfl⟩ : ∃ k : Nat, N = (k : Int) + 1 := ⟨(N - 1).toNat, by omega⟩
          have hk : k < bs.length := by omega
          obtain ⟨b, ob, hb, hob, hrel⟩ := hR.get hk
          have hv := bx_cell hb 2 (v := .bool b.gone) rfl
          have hfg := find_gone hR hb
          have hwr : IntKind.i64.wrap ((k : Int) + 1 - 1) = k := by rw [i64_id (by omega) (by omega)]; omega
          refine XC_re (e := 7) (v' := .int .i64 (k : Nat)) rfl (by rw [hwr]) ?_
          unfold BxM
          repeat first
            | refine XC_region ?_
            | refine X_nil ?_
            | refine Y_res (r_move rfl) rfl ?_
            | refine Y_res (r_assign rfl) rfl ?_
            | refine Y_res (r_leq rfl rfl) rfl ?_
            | refine Y_res (r_geq rfl rfl) rfl ?_
            | refine Y_on rfl rfl ?_
            | refine Y_res (r_notB rfl) rfl ?_
            | refine Y_res (r_len rfl) rfl ?_
            | refine Y_res (r_field' rfl) rfl ?_
            | refine Y_res (r_loadB rfl rfl) rfl ?_
            | refine Y_res (r_pickT rfl rfl) rfl ?_
            | refine Y_splitT rfl rfl (by omega) ?_
            | refine Y_res (r_indexV1 (i := k) rfl rfl hk (Nat.le_refl _)) rfl ?_
            | refine Y_res (r_loadV (i := k * 4 + 2) rfl hv) rfl ?_
          refine XT_re (e := 7) (v' := .int .i64 (IntKind.i64.wrap ((k : Int) + 1 - 1))) rfl (by rw [hwr]) ?_
          refine XT_re (e := 8) (v' := .bool (findO rs ((k : Int) + 1)).isSome) rfl (by rw [hfg]) ?_
          exact XT_mid () trivial ⟨rfl, rfl, rfl, rfl, rfl, rfl, rfl, rfl, trivial⟩ (fun _ h => h)
        · have hfg : findO rs N = none := by rw [findO, if_neg (by omega)]
          unfold BxM
          repeat first
            | refine XC_region ?_
            | refine X_nil ?_
            | refine Y_res (r_move rfl) rfl ?_
            | refine Y_res (r_assign rfl) rfl ?_
            | refine Y_res (r_leq rfl rfl) rfl ?_
            | refine Y_res (r_geq rfl rfl) rfl ?_
            | refine Y_on rfl rfl ?_
            | refine Y_off rfl rfl rfl ?_
            | refine Y_res (r_len rfl) rfl ?_
            | refine Y_res (r_field' rfl) rfl ?_
            | refine Y_res (r_loadB rfl rfl) rfl ?_
            | refine Y_res (r_pickT rfl rfl) rfl ?_
            | refine Y_res (r_pickF rfl rfl) rfl ?_
            | refine Y_splitT rfl rfl (by omega) ?_
            | refine Y_splitF rfl rfl (by omega) ?_
          refine XT_re (e := 8) (v' := .bool (findO rs N).isSome) rfl (by rw [hfg]; first | rfl | (congr 1; simp; omega)) ?_
          exact XT_mid () trivial ⟨rfl, rfl, rfl, rfl, rfl, rfl, rfl, rfl, trivial⟩ (fun _ h => h)
      · have hfg : findO rs N = none := by rw [findO, if_neg (by omega)]
        repeat first
          | refine XC_region ?_
          | refine X_nil ?_
          | refine Y_res (r_move rfl) rfl ?_
          | refine Y_res (r_assign rfl) rfl ?_
          | refine Y_res (r_geq rfl rfl) rfl ?_
          | refine Y_off rfl rfl rfl ?_
          | refine Y_res (r_field' rfl) rfl ?_
          | refine Y_res (r_loadB rfl rfl) rfl ?_
          | refine Y_res (r_pickF rfl rfl) rfl ?_
          | refine Y_splitF rfl rfl (by omega) ?_
        refine XT_re (e := 8) (v' := .bool (findO rs N).isSome) rfl (by rw [hfg]; first | rfl | (congr 1; simp; omega)) ?_
        exact XT_mid () trivial ⟨rfl, rfl, rfl, rfl, rfl, rfl, rfl, rfl, trivial⟩ (fun _ h => h)
    rintro _ _
    try dsimp only
    obtain ⟨k7, hk7⟩ : ∃ k7, k7 = IntKind.i64.wrap (N - 1) := ⟨_, rfl⟩
    rw [← hk7]
    repeat first
      | refine XC_region ?_
      | refine X_nil ?_
      | refine XC_seq ?_
      | refine XT_seq ?_
      | refine Y_res (r_field' rfl) rfl ?_
      | refine Y_res (r_loadB rfl rfl) rfl ?_
    refine XC_mid (ι := St) (fun s => StOk (i + 1) s) (fun s => [(3, .pointer (some ⟨gf, 0, none⟩)), (4, .slice s.1.1.1 s.1.2.length s.1.1.2), (24, .slice A l.length c), (25, .int .i64 l.length), (26, .int .i64 i)])
      (fun s => Hp w (fun _ => False) (StC gf s [])) ?_ ?_
    · have hR1 := hR.mono (Nat.le_succ i)
      have hsame : StOk (i + 1) ((((Al, cl), bs), (Af, cf), rs) : St) := ⟨hR1, by dsimp only; omega⟩
      by_cases c1 : kd = 1
      · subst c1
        by_cases hN : 1 ≤ N ∧ N ≤ 256
        · obtain ⟨P, rfl⟩ : ∃ q : Nat, N = q := ⟨N.toNat, by omega⟩
          unfold BxM
          repeat first
            | refine XC_region ?_
            | refine X_nil ?_
            | refine XC_condT rfl ?_
            | refine XC_seq ?_
            | refine XT_seq ?_
            | refine XC_block ?_
            | refine Y_res (r_move rfl) rfl ?_
            | refine Y_res (r_assign rfl) rfl ?_
            | refine Y_res (r_leq rfl rfl) rfl ?_
            | refine Y_res (r_geq rfl rfl) rfl ?_
            | refine Y_res (r_eql rfl rfl) rfl ?_
            | refine Y_on rfl rfl ?_
            | refine Y_res (r_len rfl) rfl ?_
            | refine Y_res (r_field' rfl) rfl ?_
            | refine Y_res (r_loadB rfl rfl) rfl ?_
            | refine Y_res (r_pickT rfl rfl) rfl ?_
            | refine Y_splitT rfl rfl (by omega) ?_
            | refine XC_condP rfl (fun _ => ?_) (fun hx => absurd (by omega) hx)
            | refine Y_res (r_buildX (v := .agg [Value.int .i64 P, .int .i64 0, .bool false, .slice none 0 0].toArray) rfl (fun w => by kernel_rfl)) rfl ?_
            | (refine X_buildF1 (s := 4) (us := [Value.int .i64 P, .int .i64 0, .bool false, .slice none 0 0]) rfl rfl rfl (by decide) (by decide) rfl ?_; intro _ _)
            | (refine X_appendV (s := 4) (ys := [Value.int .i64 P, .int .i64 0, .bool false, .slice none 0 0]) (l2 := 1) rfl rfl (fun w_ hM => rdv_blk (r := []) hM.head (List.append_nil _).symm rfl (Nat.le_refl 1) (by decide)) (fun u hu => by simp at hu; rcases hu with rfl | rfl | rfl | rfl <;> rfl) rfl (by decide) rfl rfl (by omega) (by omega) rfl ?_; intro _ _)
          rename_i g9 hg9 A4 c4
          refine X_call (g := 14) rfl rfl (fun w1 q1 => (joinI_any (gf := gf) (A := Af) (c := cf) (rs := rs) P (fdl_in [_, _, _, _] q1) (by omega) (by omega)).mono ?_)
          rintro e w2 (⟨hbad, _⟩ | ⟨_, A5, c5, x, rfl, k1, k2, k3, q2⟩)
          · exact absurd (by omega) hbad
          refine ⟨_, rfl, _, fdl_out _ q2, ?_⟩
          clear q1 q2
          try dsimp only [List.cons_append, List.nil_append]
          repeat first
            | refine X_nil ?_
            | refine XT_seq ?_
            | refine XT_block_normal ?_
            | refine XC_skip ?_
            | refine Y_res (r_move rfl) rfl ?_
            | refine Y_res (r_neq rfl rfl) rfl ?_
            | refine XC_condP rfl (fun hx => absurd (by omega) hx) (fun _ => ?_)
          have hb0 : Rel (i + 1) ⟨P, 0, false, none, 0, []⟩ (some x) := ⟨rfl, ⟨by omega, by rw [k2]; exact Nat.zero_le _, by omega⟩, by show x.cap = P; omega, k3, by rw [k2]; rfl, Nat.zero_le _, by show P ≤ 256; omega⟩
          have e1 : (bs ++ [(⟨P, 0, false, none, 0, []⟩ : Bx)]).length = bs.length + 1 := by simp
          have e2 : ((bs ++ [(⟨P, 0, false, none, 0, []⟩ : Bx)]).map bxC).flatten = (bs.map bxC).flatten ++ [Value.int .i64 P, .int .i64 0, .bool false, .slice none 0 0] := by rw [List.map_append, List.flatten_append]; rfl
          have e3 : (bs ++ [(⟨P, 0, false, none, 0, []⟩ : Bx)]).map bxI = bs.map bxI ++ [itI .i64 none 0 []] := by rw [List.map_append]; rfl
          refine XT_re (e := 4) (v' := .slice A4 (bs ++ [(⟨P, 0, false, none, 0, []⟩ : Bx)]).length c4) rfl (by rw [e1]) ?_
          refine XT_mid ((((A4, c4), bs ++ [⟨P, 0, false, none, 0, []⟩]), (A5, c5), rs ++ [some x]) : St) ⟨hR1.snoc hb0, by dsimp only; rw [e1]; omega⟩ ⟨rfl, rfl, rfl, rfl, rfl, trivial⟩ (fun _ h => ?_)
          unfold StC BxM
          try dsimp only
          rw [e1, e2, e3]
          exact (bag_nil (Hp.swap h.tail.tail)).swap
        · repeat first
            | refine XC_region ?_
            | refine X_nil ?_
            | refine XC_condT rfl ?_
            | refine XC_seq ?_
            | refine XT_seq ?_
            | refine XC_block ?_
            | refine Y_res (r_move rfl) rfl ?_
            | refine Y_res (r_assign rfl) rfl ?_
            | refine Y_res (r_geq rfl rfl) rfl ?_
            | refine Y_res (r_eql rfl rfl) rfl ?_
            | refine Y_res (r_field' rfl) rfl ?_
            | refine Y_res (r_loadB rfl rfl) rfl ?_
            | refine XC_condP rfl (fun hx => absurd hx hN) (fun _ => ?_)
          by_cases hN1 : 1 ≤ N
          · repeat first
              | refine XC_region ?_
              | refine X_nil ?_
              | refine XC_seq ?_
              | refine XT_seq ?_
              | refine XC_skip ?_
              | refine Y_res (r_move rfl) rfl ?_
              | refine Y_res (r_leq rfl rfl) rfl ?_
              | refine Y_on rfl rfl ?_
              | refine Y_res (r_field' rfl) rfl ?_
              | refine Y_res (r_loadB rfl rfl) rfl ?_
              | refine Y_res (r_pickT rfl rfl) rfl ?_
              | refine Y_splitT rfl rfl hN1 ?_
              | refine XC_condP rfl (fun hx => absurd ⟨hN1, hx⟩ hN) (fun _ => ?_)
            refine X_call (g := 14) rfl rfl (fun w1 q1 => (joinI_any (gf := gf) (A := Af) (c := cf) (rs := rs) N (fdl_in [_, _, _] q1) (by omega) hN64).mono ?_)
            rintro e w2 (⟨_, rfl, q2⟩ | ⟨hbad, _⟩)
            · refine ⟨_, rfl, _, fdl_out _ q2, ?_⟩
              clear q1 q2
              try dsimp only [List.cons_append, List.nil_append]
              repeat first
                | refine X_nil ?_
                | refine XC_condF rfl ?_
                | refine XT_seq ?_
                | refine XT_block_normal ?_
                | refine XC_skip ?_
                | refine Y_res (r_move rfl) rfl ?_
                | refine Y_res (r_neq rfl rfl) rfl ?_
              exact XT_mid _ hsame ⟨rfl, rfl, rfl, rfl, rfl, trivial⟩ (fun _ h => h.tail)
            · exact absurd hbad hN
          · repeat first
              | refine XC_region ?_
              | refine X_nil ?_
              | refine XC_condF rfl ?_
              | refine XC_seq ?_
              | refine XT_seq ?_
              | refine XC_skip ?_
              | refine Y_res (r_move rfl) rfl ?_
              | refine Y_off rfl rfl rfl ?_
              | refine Y_res (r_field' rfl) rfl ?_
              | refine Y_res (r_loadB rfl rfl) rfl ?_
              | refine Y_res (r_pickF rfl rfl) rfl ?_
              | refine Y_splitF rfl rfl hN1 ?_
            refine X_call (g := 14) rfl rfl (fun w1 q1 => (joinI_any (gf := gf) (A := Af) (c := cf) (rs := rs) N (fdl_in [_, _, _] q1) (by omega) hN64).mono ?_)
            rintro e w2 (⟨_, rfl, q2⟩ | ⟨hbad, _⟩)
            · refine ⟨_, rfl, _, fdl_out _ q2, ?_⟩
              clear q1 q2
              try dsimp only [List.cons_append, List.nil_append]
              repeat first
                | refine X_nil ?_
                | refine XC_condF rfl ?_
                | refine XT_seq ?_
                | refine XT_block_normal ?_
                | refine XC_skip ?_
                | refine Y_res (r_move rfl) rfl ?_
                | refine Y_res (r_neq rfl rfl) rfl ?_
              exact XT_mid _ hsame ⟨rfl, rfl, rfl, rfl, rfl, trivial⟩ (fun _ h => h.tail)
            · exact absurd hbad hN
      by_cases c2 : kd = 2
      · subst c2
        unfold BxM
        repeat first
          | refine XC_region ?_
          | refine X_nil ?_
          | refine XC_condT rfl ?_
          | refine XC_condF rfl ?_
          | refine XC_seq ?_
          | refine XT_seq ?_
          | refine XC_block ?_
          | refine Y_res (r_move rfl) rfl ?_
          | refine Y_res (r_assign rfl) rfl ?_
          | refine Y_res (r_eql rfl rfl) rfl ?_
          | refine Y_res (r_field' rfl) rfl ?_
          | refine Y_res (r_loadB rfl rfl) rfl ?_
        refine X_call (g := 19) rfl rfl (fun w1 q1 => (leave_any (gf := gf) (A := Af) (c := cf) (rs := rs) N (fdl_in [_, _, _] q1) hN64).mono ?_)
        rintro e w2 ⟨rfl, q2⟩
        refine ⟨_, rfl, _, fdl_out _ q2, ?_⟩
        clear q1 q2
        try dsimp only [List.cons_append, List.nil_append]
        repeat first
          | refine X_nil ?_
          | refine XT_seq ?_
          | refine Y_res (r_move rfl) rfl ?_
          | refine Y_res (r_neqB rfl rfl) rfl ?_
        refine XC_cond rfl (fun hx => absurd hx (by simp)) (fun _ => ?_)
        cases hf : findO rs N with
        | none =>
          have e1 : leaveO rs N = rs := by simp only [leaveO, hf]
          rw [e1]
          try dsimp only [Option.isSome]
          repeat first
            | refine XC_region ?_
            | refine X_nil ?_
            | refine XC_condF rfl ?_
            | refine XC_seq ?_
            | refine XT_seq ?_
            | refine XT_block_normal ?_
            | refine XC_skip ?_
            | refine Y_res (r_move rfl) rfl ?_
          exact XT_mid _ hsame ⟨rfl, rfl, rfl, rfl, rfl, trivial⟩ (fun _ h => h.tail)
        | some x =>
          obtain ⟨k, rfl, hk⟩ := findO_some hf
          have e1 : leaveO rs ((k : Int) + 1) = rs.set k none := by simp only [leaveO, hf]; rw [show ((k : Int) + 1 - 1).toNat = k by omega]
          have hkb : k < bs.length := by rw [hrl]; exact (List.getElem?_eq_some_iff.1 hk).1
          have hk7' : k7 = (k : Int) := by rw [hk7, i64_id (by omega) (by omega)]; omega
          obtain ⟨b, ob, hb, _, _⟩ := hR.get hkb
          have hb4 : (bs.map bxC)[k]? = some (bxC b) := by rw [List.getElem?_map, hb]; rfl
          rw [e1]
          try dsimp only [Option.isSome]
          repeat first
            | refine XC_region ?_
            | refine X_nil ?_
            | refine XC_condT rfl ?_
            | refine XC_seq ?_
            | refine XT_seq ?_
            | refine XC_skip ?_
            | refine Y_res (r_move rfl) rfl ?_
            | refine Y_res (r_buildX (v := .agg (bxC ⟨0, 0, true, none, 0, []⟩).toArray) rfl (fun w => by kernel_rfl)) rfl ?_
          refine Y_re (e := 87) (v' := .int .i64 (k : Nat)) rfl (by rw [hk7']) ?_
          repeat first
            | refine X_nil ?_
            | refine XT_block_normal ?_
            | refine Y_res (r_indexV1 (i := k) rfl rfl hkb (Nat.le_refl _)) rfl ?_
            | refine X_storeF (i := k) (s := 4) (us' := bxC ⟨0, 0, true, none, 0, []⟩) rfl rfl rfl (bxC_one _) (bxC_len bs) hb4 (by decide) ?_
          refine XT_re (e := 4) (v' := .slice Al (bs.set k ⟨0, 0, true, none, 0, []⟩).length cl) rfl (by rw [List.length_set]) ?_
          refine XT_mid ((((Al, cl), bs.set k ⟨0, 0, true, none, 0, []⟩), (Af, cf), rs.set k none) : St) ⟨hR1.set ⟨rfl, rfl, rfl⟩, by dsimp only; rw [List.length_set]; omega⟩ ⟨rfl, rfl, rfl, rfl, rfl, trivial⟩ (fun _ h => ?_)
          unfold StC BxM
          try dsimp only
          rw [List.length_set, ← bx_set4]
          refine Hp.swap (Hp.bagNSub (bag_nil (Hp.swap h.tail)) (fun it hit => ?_))
          obtain ⟨q, hq, rfl⟩ := List.mem_map.1 hit
          rw [List.mem_append, List.mem_singleton]
          rcases List.mem_or_eq_of_mem_set hq with hq | rfl
          · exact .inl (List.mem_map.2 ⟨q, hq, rfl⟩)
          · exact .inr rfl
      by_cases c3 : kd = 3
      · subst c3
        unfold BxM
        repeat first
          | refine XC_region ?_
          | refine X_nil ?_
          | refine XC_condT rfl ?_
          | refine XC_condF rfl ?_
          | refine XC_seq ?_
          | refine XT_seq ?_
          | refine XC_block ?_
          | refine Y_res (r_move rfl) rfl ?_
          | refine Y_res (r_assign rfl) rfl ?_
          | refine Y_res (r_eql rfl rfl) rfl ?_
          | refine Y_res (r_len rfl) rfl ?_
        refine XC_loop (ι := Nat × List Bx) (fun j => j.1 ≤ bs.length ∧ Rels (i + 1) j.2 (toldTo rs (.int .i64 V) j.1) ∧ ∀ q, j.1 ≤ q → j.2[q]? = bs[q]?) (fun j => [(3, .pointer (some ⟨gf, 0, none⟩)), (4, .slice Al bs.length cl), (6, .pointer (some ⟨go, 0, none⟩)), (10, .int .i64 (cnt (rs.take j.1))), (24, .slice A l.length c), (25, .int .i64 l.length), (26, .int .i64 i), (92, .slice Al bs.length cl), (93, .int .i64 bs.length), (94, .int .i64 j.1)])
          (fun j => Hp w (fun _ => False) (Ch.blk go [.int .i64 3, .int .i64 N, .int .i64 V] 41 :: Ch.sv Al cl 43 4 bs.length (j.2.map bxC).flatten :: Ch.bagN (j.2.map bxI) :: FdCI gf Af cf rs [])) (fun j => bs.length - j.1) (0, bs) ⟨Nat.zero_le _, by rw [toldTo_zero]; exact hR1, fun q _ => rfl⟩ ⟨rfl, rfl, rfl, rfl, rfl, rfl, rfl, rfl, rfl, rfl, trivial⟩ (fun _ h => h) ?_
        rintro ⟨j, bt⟩ ⟨hj, hT, hq⟩
        try dsimp only at hj hT hq ⊢
        have htl : bt.length = bs.length := by rw [hT.ln, toldTo_len, ← hrl]
        repeat first
          | refine XC_region ?_
          | refine X_nil ?_
          | refine XC_seq ?_
          | refine XT_seq ?_
          | refine Y_res (r_lss rfl rfl) rfl ?_
        refine XC_condP rfl (fun hlt2 => ?_) (fun hge2 => ?_)
        · have hj2 : j < bs.length := by omega
          obtain ⟨b, o, hb0, hob, hrel⟩ := hR.get hj2
          have hb : bt[j]? = some b := by rw [hq j (Nat.le_refl _)]; exact hb0
          obtain ⟨ht1, ht2⟩ := toldTo_at (v := .int .i64 V) hob
          have hc1 := cnt_succ hob
          have hc2 := cnt_le (rs.take j)
          rw [List.length_take] at hc2
          have hv2 := bx_cell hb 2 (v := .bool b.gone) rfl
          have hv3 := bx_cell hb 3 (v := .slice b.B b.xs.length b.d) rfl
          have hbm : bxI b ∈ bt.map bxI := List.mem_map.2 ⟨b, List.mem_of_getElem? hb, rfl⟩
          have hrd : ∀ w1, (Ch.bagN (bt.map bxI)).P w1 → Rds w1 b.B b.d .i64 b.xs := fun w1 h => RdV.toS (bagN_rd (it := bxI b) h hbm)
          repeat first
            | refine XC_region ?_
            | refine X_nil ?_
            | refine XC_seq ?_
            | refine XT_seq ?_
            | refine XC_block ?_
            | refine XC_skip ?_
            | refine Y_res (r_move rfl) rfl ?_
            | refine Y_res (r_assign rfl) rfl ?_
            | refine Y_res (r_field' rfl) rfl ?_
            | refine Y_res (r_indexV1 (i := j) rfl rfl hj2 (Nat.le_refl _)) rfl ?_
            | refine Y_res (r_loadV (i := j * 4 + 2) rfl hv2) rfl ?_
          cases o with
          | none =>
            rw [hrel.1]
            repeat first
              | refine XC_region ?_
              | refine X_nil ?_
              | refine XC_condT rfl ?_
              | refine XT_seq ?_
              | refine XT_block_same rfl ?_
              | refine XT_then_exit ?_
              | refine XC_exit ?_
              | refine Y_res (r_move rfl) rfl ?_
              | refine Y_res (r_add64 rfl rfl (by omega)) rfl ?_
            refine XT_re (e := 10) (v' := .int .i64 (cnt (rs.take (j + 1)))) rfl (by rw [hc1]; rfl) ?_
            refine XT_round (j + 1, bt) ⟨by dsimp only; omega, ?_, fun q hq1 => hq q (by dsimp only at hq1; omega)⟩ (by dsimp only; omega) ⟨rfl, rfl, rfl, rfl, rfl, rfl, rfl, rfl, rfl, rfl, trivial⟩ (fun _ h => h)
            dsimp only
            rw [ht2, show putO (.int .i64 V) none = none from rfl, set_self ht1]
            exact hT
          | some x =>
            have hxb : b.xs.length ≤ 256 := by
              have h5 := hrel.2.1.le
              have h6 := hrel.2.2.1
              have h7 := hrel.2.2.2.2.2.2
              rw [hrel.2.2.2.2.1, List.length_map] at h5
              omega
            rw [hrel.1]
            repeat first
              | refine XC_region ?_
              | refine X_nil ?_
              | refine XC_condF rfl ?_
              | refine XC_seq ?_
              | refine XT_seq ?_
              | refine XC_skip ?_
              | refine Y_res (r_move rfl) rfl ?_
              | refine Y_res (r_assign rfl) rfl ?_
              | refine Y_res (r_add64 rfl rfl (by omega)) rfl ?_
            refine XC_open (ι := Unit) (fun _ => b.xs.length ≤ b.d ∧ b.d ≤ 9223372036854775807) (fun _ => Hp w (fun _ => False) (Ch.blk go [.int .i64 3, .int .i64 N, .int .i64 V] 41 :: Ch.sv Al cl 43 4 bs.length (bt.map bxC).flatten :: Ch.bagN (bt.map bxI) :: FdCI gf Af cf rs [])) (fun w1 h => ⟨(), ⟨(hrd w1 h.tail.tail.head).le, (hrd w1 h.tail.tail.head).cap⟩, h⟩) ?_
            rintro _ ⟨hd1, hd2⟩
            refine XC_mid (ι := Option Addr × Nat) (fun p => True) (fun p => [(3, .pointer (some ⟨gf, 0, none⟩)), (4, .slice Al bs.length cl), (6, .pointer (some ⟨go, 0, none⟩)), (10, .int .i64 (cnt (rs.take (j + 1)))), (11, .int .i64 j), (24, .slice A l.length c), (25, .int .i64 l.length), (26, .int .i64 i), (92, .slice Al bs.length cl), (93, .int .i64 bs.length), (94, .int .i64 j)])
              (fun p => Hp w (fun _ => False) (Ch.blk go [.int .i64 3, .int .i64 N, .int .i64 V] 41 :: Ch.sv Al cl 43 4 bs.length ((bt.set j { b with B := p.1, d := p.2, xs := b.xs ++ [V] }).map bxC).flatten :: Ch.bagN ((bt.set j { b with B := p.1, d := p.2, xs := b.xs ++ [V] }).map bxI) :: FdCI gf Af cf rs [])) ?_ ?_
            · refine XC_held 15 (Hp w (fun _ => False) [Ch.blk go [.int .i64 3, .int .i64 N, .int .i64 V] 41, Ch.sv Al cl 43 4 bs.length (bt.map bxC).flatten]) rfl drw_hp (fun _ h => Hp.sublist h (.cons_cons _ (.cons_cons _ (List.nil_sublist _)))) ?_
              refine TE_reads [0, 1, 3, 4, 5, 6, 7, 9, 10] (by decide +kernel) (by decide +kernel) rfl ?_
              repeat first
                | refine Y_res (r_move rfl) rfl ?_
                | refine Y_res (r_field' rfl) rfl ?_
                | refine Y_res (r_loadB rfl rfl) rfl ?_
                | refine Y_res (r_indexV1 (i := j) rfl rfl hj2 (Nat.le_refl _)) rfl ?_
                | refine Y_res (r_loadV (i := j * 4 + 3) rfl hv3) rfl ?_
              refine XQ_nodeE ?_
              refine TE_two 2 11 (by decide +kernel) (by decide +kernel) (by decide +kernel) rfl rfl ?_ ?_
              · repeat first
                  | refine X_nil ?_
                  | refine XT_only ?_
                  | (refine X_buildS (by rfl) (by rfl) (by simp) rfl ?_; intro _ _)
                refine XT_nodeE (fun _ h => by first | exact Hp.sublist h (.cons_cons _ (.cons_cons _ (List.nil_sublist _))) | exact Hp.sublist h (.cons _ (.cons_cons _ (.cons_cons _ (List.nil_sublist _)))) | exact Hp.sublist h (.cons _ (.cons _ (.cons_cons _ (.cons_cons _ (List.nil_sublist _))))) | exact Hp.sublist h (.cons _ (.cons _ (.cons _ (.cons_cons _ (.cons_cons _ (List.nil_sublist _))))))) ?_
                refine TE_two 8 11 (by decide +kernel) (by decide +kernel) (by decide +kernel) rfl rfl ?_ ?_
                · refine X_appendI (ys := b.xs) rfl rfl (fun w1 hM => hrd w1 (by first | exact hM.tail.tail.tail.head | exact hM.tail.tail.tail.tail.head)) rfl rfl rfl (by first | omega | (simp only [List.length_nil]; omega)) (by first | omega | (simp only [List.length_nil]; omega)) rfl ?_
                  intro A8 c8
                  try simp only [List.nil_append]
                  repeat first
                    | refine X_nil ?_
                    | refine XT_only ?_
                  refine XT_nodeE (fun _ h => by first | exact Hp.sublist h (.cons_cons _ (.cons_cons _ (List.nil_sublist _))) | exact Hp.sublist h (.cons _ (.cons_cons _ (.cons_cons _ (List.nil_sublist _)))) | exact Hp.sublist h (.cons _ (.cons _ (.cons_cons _ (.cons_cons _ (List.nil_sublist _))))) | exact Hp.sublist h (.cons _ (.cons _ (.cons _ (.cons_cons _ (.cons_cons _ (List.nil_sublist _))))))) ?_
                  refine TE_one 11 (by decide +kernel) rfl rfl ?_
                  repeat first
                    | refine X_nil ?_
                    | refine XT_only ?_
                    | (refine X_buildS (by rfl) (by rfl) (by simp) rfl ?_; intro _ _)
                  refine XT_nodeE (fun _ h => by first | exact Hp.sublist h (.cons_cons _ (.cons_cons _ (List.nil_sublist _))) | exact Hp.sublist h (.cons _ (.cons_cons _ (.cons_cons _ (List.nil_sublist _)))) | exact Hp.sublist h (.cons _ (.cons _ (.cons_cons _ (.cons_cons _ (List.nil_sublist _))))) | exact Hp.sublist h (.cons _ (.cons _ (.cons _ (.cons_cons _ (.cons_cons _ (List.nil_sublist _))))))) ?_
                  refine TE_one 12 (by decide +kernel) rfl rfl ?_
                  refine X_append (ys := [V]) rfl rfl (fun w1 hM => by first | exact rds_ints hM.head (by simp) (by decide) | exact rds_ints hM.tail.head (by simp) (by decide)) rfl rfl rfl (by simp; omega) (by simp; omega) rfl ?_
                  intro A9 c9
                  repeat first
                    | refine X_nil ?_
                    | refine XT_only ?_
                  refine XT_nodeE (fun _ h => by first | exact Hp.sublist h (.cons_cons _ (.cons_cons _ (List.nil_sublist _))) | exact Hp.sublist h (.cons _ (.cons_cons _ (.cons_cons _ (List.nil_sublist _)))) | exact Hp.sublist h (.cons _ (.cons _ (.cons_cons _ (.cons_cons _ (List.nil_sublist _))))) | exact Hp.sublist h (.cons _ (.cons _ (.cons _ (.cons_cons _ (.cons_cons _ (List.nil_sublist _))))))) ?_
                  refine TE_reads [13, 14] (by decide +kernel) (by decide +kernel) rfl ?_
                  repeat first
                    | refine Y_res (r_field' rfl) rfl ?_
                    | refine Y_res (r_indexV1 (i := j) rfl rfl hj2 (Nat.le_refl _)) rfl ?_
                  refine XQ_nodeE ?_
                  refine TE_tail 15 (by decide +kernel) rfl rfl ?_
                  refine X_storeV (i := j * 4 + 3) rfl rfl rfl (by rw [bx_flen]; omega) ?_
                  repeat first
                    | refine X_nil ?_
                    | refine XT_only ?_
                  refine XT_nodeW (TN_end (by decide +kernel) ?_)
                  refine XT_re (e := 10) (v' := .int .i64 (cnt (rs.take (j + 1)))) rfl (by rw [hc1]; rfl) ?_
                  exact XT_mid (A9, c9) trivial ⟨rfl, rfl, rfl, rfl, rfl, rfl, rfl, rfl, rfl, rfl, rfl, trivial⟩ (fun _ h => bx_put hb h.tail)
                · repeat first
                    | refine X_nil ?_
                    | refine XT_only ?_
                    | (refine X_buildS (by rfl) (by rfl) (by simp) rfl ?_; intro _ _)
                  refine XT_nodeE (fun _ h => by first | exact Hp.sublist h (.cons_cons _ (.cons_cons _ (List.nil_sublist _))) | exact Hp.sublist h (.cons _ (.cons_cons _ (.cons_cons _ (List.nil_sublist _)))) | exact Hp.sublist h (.cons _ (.cons _ (.cons_cons _ (.cons_cons _ (List.nil_sublist _))))) | exact Hp.sublist h (.cons _ (.cons _ (.cons _ (.cons_cons _ (.cons_cons _ (List.nil_sublist _))))))) ?_
                  refine TE_one 8 (by decide +kernel) rfl rfl ?_
                  refine X_appendI (ys := b.xs) rfl rfl (fun w1 hM => hrd w1 (by first | exact hM.tail.tail.tail.head | exact hM.tail.tail.tail.tail.head)) rfl rfl rfl (by first | omega | (simp only [List.length_nil]; omega)) (by first | omega | (simp only [List.length_nil]; omega)) rfl ?_
                  intro A8 c8
                  try simp only [List.nil_append]
                  repeat first
                    | refine X_nil ?_
                    | refine XT_only ?_
                  refine XT_nodeE (fun _ h => by first | exact Hp.sublist h (.cons_cons _ (.cons_cons _ (List.nil_sublist _))) | exact Hp.sublist h (.cons _ (.cons_cons _ (.cons_cons _ (List.nil_sublist _)))) | exact Hp.sublist h (.cons _ (.cons _ (.cons_cons _ (.cons_cons _ (List.nil_sublist _))))) | exact Hp.sublist h (.cons _ (.cons _ (.cons _ (.cons_cons _ (.cons_cons _ (List.nil_sublist _))))))) ?_
                  refine TE_one 12 (by decide +kernel) rfl rfl ?_
                  refine X_append (ys := [V]) rfl rfl (fun w1 hM => by first | exact rds_ints hM.head (by simp) (by decide) | exact rds_ints hM.tail.head (by simp) (by decide)) rfl rfl rfl (by simp; omega) (by simp; omega) rfl ?_
                  intro A9 c9
                  repeat first
                    | refine X_nil ?_
                    | refine XT_only ?_
                  refine XT_nodeE (fun _ h => by first | exact Hp.sublist h (.cons_cons _ (.cons_cons _ (List.nil_sublist _))) | exact Hp.sublist h (.cons _ (.cons_cons _ (.cons_cons _ (List.nil_sublist _)))) | exact Hp.sublist h (.cons _ (.cons _ (.cons_cons _ (.cons_cons _ (List.nil_sublist _))))) | exact Hp.sublist h (.cons _ (.cons _ (.cons _ (.cons_cons _ (.cons_cons _ (List.nil_sublist _))))))) ?_
                  refine TE_reads [13, 14] (by decide +kernel) (by decide +kernel) rfl ?_
                  repeat first
                    | refine Y_res (r_field' rfl) rfl ?_
                    | refine Y_res (r_indexV1 (i := j) rfl rfl hj2 (Nat.le_refl _)) rfl ?_
                  refine XQ_nodeE ?_
                  refine TE_tail 15 (by decide +kernel) rfl rfl ?_
                  refine X_storeV (i := j * 4 + 3) rfl rfl rfl (by rw [bx_flen]; omega) ?_
                  repeat first
                    | refine X_nil ?_
                    | refine XT_only ?_
                  refine XT_nodeW (TN_end (by decide +kernel) ?_)
                  refine XT_re (e := 10) (v' := .int .i64 (cnt (rs.take (j + 1)))) rfl (by rw [hc1]; rfl) ?_
                  exact XT_mid (A9, c9) trivial ⟨rfl, rfl, rfl, rfl, rfl, rfl, rfl, rfl, rfl, rfl, rfl, trivial⟩ (fun _ h => bx_put hb h.tail)
              · repeat first
                  | refine X_nil ?_
                  | refine XT_only ?_
                  | (refine X_buildS (by rfl) (by rfl) (by simp) rfl ?_; intro _ _)
                refine XT_nodeE (fun _ h => by first | exact Hp.sublist h (.cons_cons _ (.cons_cons _ (List.nil_sublist _))) | exact Hp.sublist h (.cons _ (.cons_cons _ (.cons_cons _ (List.nil_sublist _)))) | exact Hp.sublist h (.cons _ (.cons _ (.cons_cons _ (.cons_cons _ (List.nil_sublist _))))) | exact Hp.sublist h (.cons _ (.cons _ (.cons _ (.cons_cons _ (.cons_cons _ (List.nil_sublist _))))))) ?_
                refine TE_one 2 (by decide +kernel) rfl rfl ?_
                repeat first
                  | refine X_nil ?_
                  | refine XT_only ?_
                  | (refine X_buildS (by rfl) (by rfl) (by simp) rfl ?_; intro _ _)
                refine XT_nodeE (fun _ h => by first | exact Hp.sublist h (.cons_cons _ (.cons_cons _ (List.nil_sublist _))) | exact Hp.sublist h (.cons _ (.cons_cons _ (.cons_cons _ (List.nil_sublist _)))) | exact Hp.sublist h (.cons _ (.cons _ (.cons_cons _ (.cons_cons _ (List.nil_sublist _))))) | exact Hp.sublist h (.cons _ (.cons _ (.cons _ (.cons_cons _ (.cons_cons _ (List.nil_sublist _))))))) ?_
                refine TE_one 8 (by decide +kernel) rfl rfl ?_
                refine X_appendI (ys := b.xs) rfl rfl (fun w1 hM => hrd w1 (by first | exact hM.tail.tail.tail.head | exact hM.tail.tail.tail.tail.head)) rfl rfl rfl (by first | omega | (simp only [List.length_nil]; omega)) (by first | omega | (simp only [List.length_nil]; omega)) rfl ?_
                intro A8 c8
                try simp only [List.nil_append]
                repeat first
                  | refine X_nil ?_
                  | refine XT_only ?_
                refine XT_nodeE (fun _ h => by first | exact Hp.sublist h (.cons_cons _ (.cons_cons _ (List.nil_sublist _))) | exact Hp.sublist h (.cons _ (.cons_cons _ (.cons_cons _ (List.nil_sublist _)))) | exact Hp.sublist h (.cons _ (.cons _ (.cons_cons _ (.cons_cons _ (List.nil_sublist _))))) | exact Hp.sublist h (.cons _ (.cons _ (.cons _ (.cons_cons _ (.cons_cons _ (List.nil_sublist _))))))) ?_
                refine TE_one 12 (by decide +kernel) rfl rfl ?_
                refine X_append (ys := [V]) rfl rfl (fun w1 hM => by first | exact rds_ints hM.head (by simp) (by decide) | exact rds_ints hM.tail.head (by simp) (by decide)) rfl rfl rfl (by simp; omega) (by simp; omega) rfl ?_
                intro A9 c9
                repeat first
                  | refine X_nil ?_
                  | refine XT_only ?_
                refine XT_nodeE (fun _ h => by first | exact Hp.sublist h (.cons_cons _ (.cons_cons _ (List.nil_sublist _))) | exact Hp.sublist h (.cons _ (.cons_cons _ (.cons_cons _ (List.nil_sublist _)))) | exact Hp.sublist h (.cons _ (.cons _ (.cons_cons _ (.cons_cons _ (List.nil_sublist _))))) | exact Hp.sublist h (.cons _ (.cons _ (.cons _ (.cons_cons _ (.cons_cons _ (List.nil_sublist _))))))) ?_
                refine TE_reads [13, 14] (by decide +kernel) (by decide +kernel) rfl ?_
                repeat first
                  | refine Y_res (r_field' rfl) rfl ?_
                  | refine Y_res (r_indexV1 (i := j) rfl rfl hj2 (Nat.le_refl _)) rfl ?_
                refine XQ_nodeE ?_
                refine TE_tail 15 (by decide +kernel) rfl rfl ?_
                refine X_storeV (i := j * 4 + 3) rfl rfl rfl (by rw [bx_flen]; omega) ?_
                repeat first
                  | refine X_nil ?_
                  | refine XT_only ?_
                refine XT_nodeW (TN_end (by decide +kernel) ?_)
                refine XT_re (e := 10) (v' := .int .i64 (cnt (rs.take (j + 1)))) rfl (by rw [hc1]; rfl) ?_
                exact XT_mid (A9, c9) trivial ⟨rfl, rfl, rfl, rfl, rfl, rfl, rfl, rfl, rfl, rfl, rfl, trivial⟩ (fun _ h => bx_put hb (Hp.sublist h (.cons_cons _ (.cons _ (List.Sublist.refl _)))))
            rintro ⟨A9, c9⟩ _
            try dsimp only
            have hput := hrel.put (by omega) V
            obtain ⟨b1, hb1e⟩ : ∃ b1 : Bx, b1 = { b with B := A9, d := c9, xs := b.xs ++ [V] } := ⟨_, rfl⟩
            obtain ⟨bt1, hbt1⟩ : ∃ bt1, bt1 = bt.set j b1 := ⟨_, rfl⟩
            rw [← hb1e, ← hbt1]
            have hb1 : bt1[j]? = some b1 := by rw [hbt1, List.getElem?_set_self (by omega)]
            have hx1 : b1.xs = b.xs ++ [V] := by rw [hb1e]
            have hP1 : b1.P = b.P := by rw [hb1e]
            have hl1 : b1.lost = b.lost := by rw [hb1e]
            have hxl : b1.xs.length = b.xs.length + 1 := by rw [hx1]; simp
            have hbm1 : bxI b1 ∈ bt1.map bxI := List.mem_map.2 ⟨b1, List.mem_of_getElem? hb1, rfl⟩
            refine XC_open (ι := Unit) (fun _ => b1.xs.length ≤ b1.d ∧ b1.d ≤ 9223372036854775807) (fun _ => Hp w (fun _ => False) (Ch.blk go [.int .i64 3, .int .i64 N, .int .i64 V] 41 :: Ch.sv Al cl 43 4 bs.length (bt1.map bxC).flatten :: Ch.bagN (bt1.map bxI) :: FdCI gf Af cf rs [])) (fun w1 h => ⟨(), ⟨RdV.le (bagN_rd (it := bxI b1) h.tail.tail.head hbm1), RdV.cap (bagN_rd (it := bxI b1) h.tail.tail.head hbm1)⟩, h⟩) ?_
            rintro _ ⟨hd1', hp2⟩
            have w3 := bx_cell hb1 3 (v := .slice b1.B b1.xs.length b1.d) rfl
            have w0 := bx_cell hb1 0 (v := .int .i64 b1.P) rfl
            have hbq : ∀ q, j + 1 ≤ q → ∀ z : Bx, (bt.set j z)[q]? = bs[q]? := fun q hq1 z => by rw [List.getElem?_set_ne (by omega)]; exact hq q (by omega)
            repeat first
              | refine XC_quietF rfl (by kernel_rfl) (by kernel_rfl) drw_hp ?_
              | refine XQ_nil ?_
              | refine XC_seq ?_
              | refine XT_seq ?_
              | refine Y_res (r_move rfl) rfl ?_
              | refine Y_res (r_gtr rfl rfl) rfl ?_
              | refine Y_res (r_len rfl) rfl ?_
              | refine Y_res (r_field' rfl) rfl ?_
              | refine Y_res (r_indexV1 (i := j) rfl rfl hj2 (Nat.le_refl _)) rfl ?_
              | refine Y_res (r_loadV (i := j * 4 + 3) rfl w3) rfl ?_
              | refine Y_res (r_loadV (i := j * 4 + 0) rfl w0) rfl ?_
            refine XC_condP rfl (fun hful => ?_) (fun hnf => ?_)
            · obtain ⟨n, t, hnt⟩ : ∃ n t, b1.xs = n :: t := by
                cases hx : b1.xs with
                | nil => rw [hx] at hxl; simp at hxl
                | cons n t => exact ⟨n, t, rfl⟩
              have hd0 : 1 ≤ b1.d := by omega
              have hbl1 : bt1.length = bs.length := by rw [hbt1, List.length_set, htl]
              repeat first
                | refine XC_seq ?_
              refine XC_region ?_
              repeat first
                | refine X_nil ?_
                | refine XT_seq ?_
                | refine Y_res (r_move rfl) rfl ?_
                | refine Y_res (r_field' rfl) rfl ?_
                | refine Y_res (r_cutL rfl rfl (by omega)) rfl ?_
                | refine Y_res (r_indexV1 (i := j) rfl rfl hj2 (Nat.le_refl _)) rfl ?_
                | refine Y_res (r_loadV (i := j * 4 + 3) rfl w3) rfl ?_
                | refine X_storeV (i := j * 4 + 3) rfl rfl rfl (by rw [bx_flen]; omega) ?_
              obtain ⟨b2, hb2e⟩ : ∃ b2 : Bx, b2 = { b1 with B := cutA b1.B 1 b1.d 1, d := b1.d - 1, xs := t } := ⟨_, rfl⟩
              have htl1 : b1.xs.length - 1 = t.length := by rw [hnt]; rfl
              refine XC_mem (M' := Hp w (fun _ => False) (Ch.blk go [.int .i64 3, .int .i64 N, .int .i64 V] 41 :: Ch.sv Al cl 43 4 bs.length ((bt1.set j b2).map bxC).flatten :: Ch.bagN ((bt1.set j b2).map bxI) :: FdCI gf Af cf rs [])) (fun w1 h => ?_) ?_
              · rw [← bx_set (b' := b2) hb1 3 (.slice (cutA b1.B 1 b1.d 1) t.length (b1.d - 1)) (by decide) (by rw [hb2e]; rfl), hb2e]
                rw [htl1] at h
                exact (bag_cut hb1 hnt (h.of_perm (ds := Ch.bagN (bt1.map bxI) :: Ch.blk go [.int .i64 3, .int .i64 N, .int .i64 V] 41 :: Ch.sv Al cl 43 4 bs.length ((bt1.map bxC).flatten.set (j * 4 + 3) (.slice (cutA b1.B 1 b1.d 1) t.length (b1.d - 1))) :: FdCI gf Af cf rs []) (List.perm_middle (l₁ := [_, _])))).of_perm (List.perm_middle (l₁ := [_, _])).symm
              obtain ⟨bt2, hbt2⟩ : ∃ bt2, bt2 = bt1.set j b2 := ⟨_, rfl⟩
              rw [← hbt2]
              have hb2 : bt2[j]? = some b2 := by rw [hbt2, List.getElem?_set_self (by rw [hbt1, List.length_set]; omega)]
              have hl2 : b2.lost = b.lost := by rw [hb2e]; exact hl1
              have w1' := bx_cell hb2 1 (v := .int .i64 b2.lost) rfl
              have hlo := hrel.2.2.2.2.2.1
              repeat first
                | refine XC_region ?_
                | refine X_nil ?_
                | refine XT_seq ?_
                | refine XT_block_normal ?_
                | refine Y_res (r_move rfl) rfl ?_
                | refine Y_res (r_add64 rfl rfl (by omega)) rfl ?_
                | refine Y_res (r_field' rfl) rfl ?_
                | refine Y_res (r_indexV1 (i := j) rfl rfl hj2 (Nat.le_refl _)) rfl ?_
                | refine Y_res (r_loadV (i := j * 4 + 1) rfl w1') rfl ?_
                | refine X_storeV (i := j * 4 + 1) rfl rfl rfl (by rw [bx_flen, hbt2, List.length_set]; omega) ?_
              obtain ⟨b3, hb3e⟩ : ∃ b3 : Bx, b3 = { b2 with lost := b2.lost + 1 } := ⟨_, rfl⟩
              have e3 : bt2.set j b3 = bt.set j b3 := by rw [hbt2, hbt1, List.set_set, List.set_set]
              have e4 : (bt2.set j b3).map bxI = bt2.map bxI := by
                rw [List.map_set, show bxI b3 = bxI b2 by rw [hb3e]; rfl]
                exact set_self (by rw [List.getElem?_map, hb2]; rfl)
              have hrel3 : Rel (i + 1) b3 (putO (.int .i64 V) (some x)) := by
                have h5 := (hput b2.B b2.d).2 (by omega)
                have e5 : t = b.xs.tail ++ [V] := by
                  have e6 : n :: t = b.xs ++ [V] := by rw [← hnt, hx1]
                  cases hbx : b.xs with
                  | nil => have h7 := hrel.2.1.cp; have h8 := hrel.2.2.1; rw [hbx] at hxl; simp at hxl; omega
                  | cons u v => rw [hbx] at e6; simp at e6; rw [e6.2]; rfl
                rw [hb3e, hb2e, hb1e]
                rw [hb2e, hb1e] at h5
                dsimp only at h5 ⊢
                rw [e5]
                exact h5
              refine XT_round (j + 1, bt2.set j b3) ⟨by dsimp only; omega, by dsimp only; rw [e3, ht2]; exact hT.set hrel3, fun q hq1 => by dsimp only; rw [e3]; exact hbq q hq1 b3⟩ (by dsimp only; omega) ⟨rfl, rfl, rfl, rfl, rfl, rfl, rfl, rfl, rfl, rfl, trivial⟩ (fun _ h => ?_)
              try dsimp only
              rw [e4, ← bx_set (b' := b3) hb2 1 (.int .i64 ((b2.lost : Int) + 1)) (by decide) (by rw [hb3e]; rfl)]
              exact h
            · have hrel1 : Rel (i + 1) b1 (putO (.int .i64 V) (some x)) := by
                rw [hb1e]
                exact (hput A9 c9).1 (by omega)
              repeat first
                | refine XC_region ?_
                | refine X_nil ?_
                | refine XT_seq ?_
                | refine XT_block_normal ?_
                | refine XC_skip ?_
                | refine Y_res (r_move rfl) rfl ?_
                | refine Y_res (r_add64 rfl rfl (by omega)) rfl ?_
              exact XT_round (j + 1, bt1) ⟨by dsimp only; omega, by dsimp only; rw [hbt1, ht2]; exact hT.set hrel1, fun q hq1 => by dsimp only; rw [hbt1]; exact hbq q hq1 b1⟩ (by dsimp only; omega) ⟨rfl, rfl, rfl, rfl, rfl, rfl, rfl, rfl, rfl, rfl, trivial⟩ (fun _ h => h)
        · obtain rfl : j = bs.length := by omega
          have etk : rs.take bs.length = rs := by rw [hrl]; exact List.take_length
          rw [etk]
          have hT2 : Rels (i + 1) bt (rs.map (putO (.int .i64 V))) := by rw [hrl, toldTo_all] at hT; exact hT
          repeat first
            | refine XC_region ?_
            | refine XC_seq ?_
            | refine XT_seq ?_
            | refine XT_block_same rfl ?_
            | refine XT_then_exit ?_
            | refine XC_exit ?_
            | refine Y_res (r_move rfl) rfl ?_
            | refine Y_res (r_field' rfl) rfl ?_
            | refine Y_res (r_loadB rfl rfl) rfl ?_
          refine X_call (g := 15) rfl rfl (fun w1 q1 => (tellI_any (gf := gf) (A := Af) (c := cf) (rs := rs) (.int .i64 V) (fdl_in [_, _, _] q1) hR.ok (by omega)).mono ?_)
          rintro e w2 ⟨rfl, q2⟩
          refine ⟨_, rfl, _, fdl_out _ q2, ?_⟩
          clear q1 q2
          try dsimp only [List.cons_append, List.nil_append]
          repeat first
            | refine X_nil ?_
            | refine XT_seq ?_
            | refine XT_block_normal ?_
            | refine XC_skip ?_
            | refine Y_res (r_move rfl) rfl ?_
            | refine Y_res (r_neq rfl rfl) rfl ?_
            | refine XC_condP rfl (fun hx => absurd rfl hx) (fun _ => ?_)
          refine XT_re (e := 4) (v' := .slice Al bt.length cl) rfl (by rw [htl]) ?_
          refine XT_mid ((((Al, cl), bt), (Af, cf), rs.map (putO (.int .i64 V))) : St) ⟨hT2, by dsimp only; omega⟩ ⟨rfl, rfl, rfl, rfl, rfl, trivial⟩ (fun _ h => ?_)
          unfold StC BxM
          try dsimp only
          rw [htl]
          exact h.tail
      by_cases c4 : kd = 4
      · subst c4
        unfold BxM
        repeat first
          | refine XC_region ?_
          | refine X_nil ?_
          | refine XC_condT rfl ?_
          | refine XC_condF rfl ?_
          | refine XC_seq ?_
          | refine XT_seq ?_
          | refine XC_block ?_
          | refine Y_res (r_move rfl) rfl ?_
          | refine Y_res (r_assign rfl) rfl ?_
          | refine Y_res (r_eql rfl rfl) rfl ?_
          | refine Y_res (r_field' rfl) rfl ?_
          | refine Y_res (r_loadB rfl rfl) rfl ?_
        refine X_call (g := 16) rfl rfl (fun w1 q1 => (takeI_any (gf := gf) (A := Af) (c := cf) (rs := rs) N (fdl_in [_, _, _] q1) hN64).mono ?_)
        rintro e w2 ⟨rfl, q2⟩
        cases hf : findO rs N with
        | none =>
          rw [takeO_none hf] at q2 ⊢
          try dsimp only [Option.isSome, Option.getD] at q2 ⊢
          refine ⟨_, rfl, _, fdl_out _ q2, ?_⟩
          clear q1 q2
          try dsimp only [List.cons_append, List.nil_append]
          repeat first
            | refine XC_region ?_
            | refine X_nil ?_
            | refine XC_condF rfl ?_
            | refine XC_seq ?_
            | refine XT_seq ?_
            | refine XT_block_normal ?_
            | refine XC_skip ?_
            | refine Y_res (r_move rfl) rfl ?_
            | refine Y_res (r_assign rfl) rfl ?_
            | refine Y_res (r_neq rfl rfl) rfl ?_
            | refine Y_res (r_neqB rfl rfl) rfl ?_
            | refine Y_on rfl rfl ?_
            | refine Y_off rfl rfl rfl ?_
            | refine Y_res (r_notB rfl) rfl ?_
            | refine Y_res (r_extract rfl rfl) rfl ?_
            | refine Y_res (r_pickT rfl rfl) rfl ?_
            | refine Y_res (r_pickF rfl rfl) rfl ?_
            | refine Y_splitT rfl rfl rfl ?_
          exact XT_mid _ hsame ⟨rfl, rfl, rfl, rfl, rfl, trivial⟩ (fun _ h => h.tail)
        | some x =>
          obtain ⟨k, rfl, hk⟩ := findO_some hf
          have hkb : k < bs.length := by rw [hrl]; exact (List.getElem?_eq_some_iff.1 hk).1
          have hk7' : k7 = (k : Int) := by rw [hk7, i64_id (by omega) (by omega)]; omega
          obtain ⟨b, ob, hb, hob, hrel⟩ := hR1.get hkb
          rw [hk] at hob
          obtain rfl := Option.some.inj hob
          have hbuf := hrel.2.2.2.2.1
          have hv3 := bx_cell hb 3 (v := .slice b.B b.xs.length b.d) rfl
          subst hk7'
          cases hx : b.xs with
          | nil =>
            rw [takeO_nil hf (by rw [hbuf, hx]; rfl)] at q2 ⊢
            try dsimp only [Option.isSome, Option.getD] at q2 ⊢
            refine ⟨_, rfl, _, fdl_out _ q2, ?_⟩
            clear q1 q2
            try dsimp only [List.cons_append, List.nil_append]
            rw [hx] at hv3
            repeat first
              | refine XC_region ?_
              | refine X_nil ?_
              | refine XC_condF rfl ?_
              | refine XC_seq ?_
              | refine XT_seq ?_
              | refine XT_block_normal ?_
              | refine XC_skip ?_
              | refine Y_res (r_move rfl) rfl ?_
              | refine Y_res (r_assign rfl) rfl ?_
              | refine Y_res (r_gtr rfl rfl) rfl ?_
              | refine Y_res (r_neq rfl rfl) rfl ?_
              | refine Y_res (r_neqB rfl rfl) rfl ?_
              | refine Y_on rfl rfl ?_
              | refine Y_off rfl rfl rfl ?_
              | refine Y_res (r_notB rfl) rfl ?_
              | refine Y_res (r_len rfl) rfl ?_
              | refine Y_res (r_field' rfl) rfl ?_
              | refine Y_res (r_extract rfl rfl) rfl ?_
              | refine Y_res (r_pickT rfl rfl) rfl ?_
              | refine Y_res (r_pickF rfl rfl) rfl ?_
              | refine Y_res (r_indexV1 (i := k) rfl rfl hkb (Nat.le_refl _)) rfl ?_
              | refine Y_res (r_loadV (i := k * 4 + 3) rfl hv3) rfl ?_
              | refine Y_splitT rfl rfl rfl ?_
            exact XT_mid _ hsame ⟨rfl, rfl, rfl, rfl, rfl, trivial⟩ (fun _ h => h.tail)
          | cons n t =>
            rw [takeO_cons hf (by rw [hbuf, hx]; rfl)] at q2 ⊢
            try dsimp only [Option.isSome, Option.getD] at q2 ⊢
            refine ⟨_, rfl, _, fdl_out _ q2, ?_⟩
            clear q1 q2
            try dsimp only [List.cons_append, List.nil_append]
            rw [hx] at hv3
            have hbm : bxI b ∈ bs.map bxI := List.mem_map.2 ⟨b, List.mem_of_getElem? hb, rfl⟩
            have hrd : ∀ w1, (Ch.bagN (bs.map bxI)).P w1 → RdV w1 b.B b.d 1 (n :: t).length ((n :: t).map (Value.int .i64)) := fun w1 h => by
              have h2 : RdV w1 b.B b.d 1 b.xs.length (b.xs.map (Value.int .i64)) := bagN_rd (it := bxI b) h hbm
              rwa [hx] at h2
            rw [show ((k : Int) + 1 - 1).toNat = k by omega]
            refine X_open (ι := Unit) (fun _ => (n :: t).length ≤ b.d ∧ b.d ≤ 9223372036854775807 ∧ (0 < b.d → b.B = some (adOf b.B))) (fun _ => Hp w (fun _ => False) (Ch.blk go [.int .i64 4, .int .i64 ((k : Int) + 1), .int .i64 V] 41 :: Ch.sv Al cl 43 4 bs.length (bs.map bxC).flatten :: Ch.bagN (bs.map bxI) :: FdCI gf Af cf (rs.set k (some { x with buf := t.map (Value.int .i64), r := x.r + 1 })) [])) (fun w1 h => ⟨(), ⟨(hrd w1 h.tail.tail.head).le, (hrd w1 h.tail.tail.head).cap, fun h0 => (hrd w1 h.tail.tail.head).some h0⟩, h⟩) ?_
            rintro _ ⟨hd1, hd2, hd3⟩
            have hd0 : 0 < b.d := by simp at hd1; omega
            have hB := hd3 hd0
            have hnt : 0 < (n :: t).length := by simp
            repeat first
              | refine XC_region ?_
              | refine X_nil ?_
              | refine XC_seq ?_
              | refine XT_seq ?_
              | refine Y_res (r_move rfl) rfl ?_
              | refine Y_res (r_assign rfl) rfl ?_
              | refine Y_res (r_gtr rfl rfl) rfl ?_
              | refine Y_res (r_neqB rfl rfl) rfl ?_
              | refine Y_on rfl rfl ?_
              | refine Y_res (r_len rfl) rfl ?_
              | refine Y_res (r_field' rfl) rfl ?_
              | refine Y_res (r_extract rfl rfl) rfl ?_
              | refine Y_res (r_pickT rfl rfl) rfl ?_
              | refine Y_res (r_indexV1 (i := k) rfl rfl hkb (Nat.le_refl _)) rfl ?_
              | refine Y_res (r_loadV (i := k * 4 + 3) rfl hv3) rfl ?_
              | refine Y_splitT rfl rfl rfl ?_
            refine Y_re (e := 177) (v' := .bool false) rfl (by simp) ?_
            repeat first
              | refine XC_region ?_
              | refine X_nil ?_
              | refine XC_condT rfl ?_
              | refine XC_seq ?_
              | refine XT_seq ?_
              | refine XT_block_normal ?_
              | refine XC_skip ?_
              | refine Y_res (r_move rfl) rfl ?_
              | refine Y_res (r_neq rfl rfl) rfl ?_
              | refine Y_on rfl rfl ?_
              | refine Y_off rfl rfl rfl ?_
              | refine Y_res (r_notB rfl) rfl ?_
              | refine Y_res (r_field' rfl) rfl ?_
              | refine Y_res (r_cutL rfl rfl (by omega)) rfl ?_
              | refine Y_res (r_pickT rfl rfl) rfl ?_
              | refine Y_res (r_pickF rfl rfl) rfl ?_
              | refine Y_res (r_indexV1 (i := k) rfl rfl hkb (Nat.le_refl _)) rfl ?_
              | refine Y_res (r_loadV (i := k * 4 + 3) rfl hv3) rfl ?_
              | refine Y_res (r_indexO (i := 0) rfl rfl hnt hB) rfl ?_
              | refine Y_res (r_loadG (i := 0) rfl (fun w1 hM => hrd w1 hM.tail.tail.head) rfl) rfl ?_
              | refine XC_condP rfl (fun hx => absurd rfl hx) (fun _ => ?_)
              | refine X_storeV (i := k * 4 + 3) rfl rfl rfl (by rw [bx_flen]; omega) ?_
            have hok := hrel.2.1
            have hlen : (n :: t).length ≤ x.cap := by have := hok.le; rw [hbuf, hx, List.length_map] at this; exact this
            have hb' : Rel (i + 1) { b with B := cutA b.B 1 b.d 1, d := b.d - 1, xs := t } (some { x with buf := t.map (Value.int .i64), r := x.r + 1 }) := ⟨hrel.1, ⟨hok.cp, by dsimp only; rw [List.length_map]; simp at hlen; omega, hok.lo⟩, hrel.2.2.1, hrel.2.2.2.1, rfl, hrel.2.2.2.2.2.1, hrel.2.2.2.2.2.2⟩
            refine XT_re (e := 4) (v' := .slice Al (bs.set k { b with B := cutA b.B 1 b.d 1, d := b.d - 1, xs := t }).length cl) rfl (by rw [List.length_set]) ?_
            refine XT_mid ((((Al, cl), bs.set k { b with B := cutA b.B 1 b.d 1, d := b.d - 1, xs := t }), (Af, cf), rs.set k (some { x with buf := t.map (Value.int .i64), r := x.r + 1 })) : St) ⟨hR1.set hb', by dsimp only; rw [List.length_set]; omega⟩ ⟨rfl, rfl, rfl, rfl, rfl, trivial⟩ (fun _ h => ?_)
            unfold StC BxM
            try dsimp only
            rw [List.length_set, ← bx_set (b' := { b with B := cutA b.B 1 b.d 1, d := b.d - 1, xs := t }) hb 3 (.slice (cutA b.B 1 b.d 1) t.length (b.d - 1)) (by decide) rfl]
            exact Hp.swap (bag_cut hb hx (Hp.swap h.tail))
      · repeat first
          | refine XC_region ?_
          | refine X_nil ?_
          | refine XC_seq ?_
          | refine XT_seq ?_
          | refine XC_block ?_
          | refine XT_block_normal ?_
          | refine XC_skip ?_
          | refine Y_res (r_assign rfl) rfl ?_
          | refine Y_res (r_eql rfl rfl) rfl ?_
          | refine XC_condP rfl (fun hx => absurd hx c1) (fun _ => ?_)
          | refine XC_condP rfl (fun hx => absurd hx c2) (fun _ => ?_)
          | refine XC_condP rfl (fun hx => absurd hx c3) (fun _ => ?_)
          | refine XC_condP rfl (fun hx => absurd hx c4) (fun _ => ?_)
        exact XT_mid _ hsame ⟨rfl, rfl, rfl, rfl, rfl, trivial⟩ (fun _ h => h.tail)
    clear hR hbl hrl hk7 k7
    rintro ⟨⟨⟨Al, cl⟩, bs⟩, ⟨Af, cf⟩, rs⟩ ⟨hR, hbl⟩
    try dsimp only at hR hbl ⊢
    have hrl := hR.ln
    unfold StC BxM
    try dsimp only
    repeat first
      | refine XC_region ?_
      | refine X_nil ?_
      | refine XC_seq ?_
      | refine XT_seq ?_
      | refine XC_block ?_
      | refine Y_res (r_move rfl) rfl ?_
      | refine Y_res (r_len rfl) rfl ?_
    refine XC_loop (ι := Nat) (fun k => k ≤ bs.length) (fun k => [(3, .pointer (some ⟨gf, 0, none⟩)), (4, .slice Al bs.length cl), (24, .slice A l.length c), (25, .int .i64 l.length), (26, .int .i64 i), (210, .slice Al bs.length cl), (211, .int .i64 bs.length), (212, .int .i64 k)])
      (fun k => Hp w (fun _ => False) (Ch.sv Al cl 43 4 bs.length (bs.map bxC).flatten :: Ch.bagN (bs.map bxI) :: FdCI gf Af cf rs [])) (fun k => bs.length - k) 0 (Nat.zero_le _) ⟨rfl, rfl, rfl, rfl, rfl, rfl, rfl, rfl, trivial⟩ (fun _ h => h) ?_
    intro k hk
    try dsimp only
    repeat first
      | refine XC_region ?_
      | refine X_nil ?_
      | refine XC_seq ?_
      | refine XT_seq ?_
      | refine Y_res (r_lss rfl rfl) rfl ?_
    refine XC_condP rfl (fun hlt2 => ?_) (fun hge2 => ?_)
    · have hk2 : k < bs.length := by omega
      obtain ⟨b, ob, hb, hob, hrel⟩ := hR.get hk2
      have hb4 : (bs.map bxC)[k]? = some (bxC b) := by rw [List.getElem?_map, hb]; rfl
      have hfo : findO rs ((k : Int) + 1) = ob := by rw [findO_in (by omega), List.getD_eq_getElem?_getD, hob]; rfl
      have hwv : Value.int .i64 (match findO rs ((k : Int) + 1) with | none => (0 : Nat) | some x => x.buf.length) = .int .i64 b.xs.length := by
        rw [hfo]
        cases ob with
        | none => rw [hrel.2.1]; rfl
        | some x => dsimp only; rw [hrel.2.2.2.2.1, List.length_map]
      have hlv : Value.int .i64 (match findO rs ((k : Int) + 1) with | none => (0 : Nat) | some x => x.lost) = .int .i64 b.lost := by
        rw [hfo]
        cases ob with
        | none => rw [hrel.2.2]
        | some x => dsimp only; rw [hrel.2.2.2.1]
      repeat first
        | refine XC_region ?_
        | refine XC_seq ?_
        | refine XT_seq ?_
        | refine XC_block ?_
        | refine XC_skip ?_
        | refine Y_res (r_move rfl) rfl ?_
        | refine Y_res (r_assign rfl) rfl ?_
        | refine Y_res (r_indexV1 (i := k) rfl rfl hk2 (Nat.le_refl _)) rfl ?_
        | refine Y_res (r_loadF (i := k) (s := 4) rfl (bxC_len bs) hb4) rfl ?_
        | (refine X_allocB (zs := [.int .i64 0, .int .i64 0, .bool false, .slice none 0 0]) rfl rfl ?_; intro _ _)
      rename_i gb hgb
      refine X_storeW (vs := [.int .i64 b.P, .int .i64 b.lost, .bool b.gone, .slice b.B b.xs.length b.d]) rfl rfl rfl (by rfl) (bxC_one b) ?_
      repeat first
        | refine XC_region ?_
        | refine XC_quietF rfl (by kernel_rfl) (by kernel_rfl) drw_hp ?_
        | refine X_nil ?_
        | refine XQ_nil ?_
        | refine XC_seq ?_
        | refine XT_seq ?_
        | refine XT_block_normal ?_
        | refine XC_skip ?_
        | refine Y_res (r_move rfl) rfl ?_
        | refine Y_res (r_add64 rfl rfl (by omega)) rfl ?_
        | refine Y_res (r_neq rfl rfl) rfl ?_
        | refine Y_on rfl rfl ?_
        | refine Y_res (r_len rfl) rfl ?_
        | refine Y_res (r_field' rfl) rfl ?_
        | refine Y_res (r_loadB rfl rfl) rfl ?_
        | refine Y_res (r_pickF rfl rfl) rfl ?_
        | refine Y_call (g := 17) (v := .int .i64 b.xs.length) rfl rfl (fun w1 hM => (waitsI_any (gf := gf) (A := Af) (c := cf) (rs := rs) (((k : Nat) : Int) + 1) (fdl_in [_, _, _] hM) (by omega)).mono fun e w2 h => ⟨h.1.trans (congrArg Ending.returned hwv), fdl_out _ h.2⟩) ?_
        | refine Y_call (g := 18) (v := .int .i64 b.lost) rfl rfl (fun w1 hM => (lostI_any (gf := gf) (A := Af) (c := cf) (rs := rs) (((k : Nat) : Int) + 1) (fdl_in [_, _, _] hM) (by omega)).mono fun e w2 h => ⟨h.1.trans (congrArg Ending.returned hlv), fdl_out _ h.2⟩) ?_
        | refine Y_splitF rfl rfl (fun h => h rfl) ?_
        | refine XC_condP rfl (fun hx => absurd rfl hx) (fun _ => ?_)
      exact XT_round (k + 1) hk2 (by omega) ⟨rfl, rfl, rfl, rfl, rfl, rfl, rfl, rfl, trivial⟩ (fun _ h => h.tail)
    · repeat first
        | refine XC_region ?_
        | refine X_nil ?_
        | refine XT_seq ?_
        | refine XT_block_normal ?_
        | refine XT_block_same rfl ?_
        | refine XT_then_exit ?_
        | refine XC_exit ?_
        | refine Y_res (r_move rfl) rfl ?_
        | refine Y_res (r_add64 rfl rfl (by omega)) rfl ?_
      refine XT_round (i + 1, (((Al, cl), bs), (Af, cf), rs)) ⟨by dsimp only; omega, hR, hbl⟩ (by dsimp only; omega) ⟨rfl, rfl, rfl, rfl, rfl, trivial⟩ (fun _ h => h)
  · have hf0 : findO rs 0 = none := by rw [findO, if_neg (by omega)]
    have hf1 : findO rs ((bs.length : Int) + 1) = none := by rw [findO, if_neg (by omega)]
    unfold BxM
    repeat first
      | refine XC_region ?_
      | refine XC_seq ?_
      | refine XT_seq ?_
      | refine XT_block_same rfl ?_
      | refine XT_then_exit ?_
      | refine XC_exit ?_
      | refine Y_res (r_move rfl) rfl ?_
    refine X_call (g := 17) rfl rfl (fun w1 q1 => (waitsI_any (gf := gf) (A := Af) (c := cf) (rs := rs) 0 (fdl_in [_, _] q1) (by decide)).mono ?_)
    rintro e w2 ⟨rfl, q2⟩
    refine ⟨_, rfl, _, fdl_out _ q2, ?_⟩
    clear q1 q2
    rw [hf0]
    try dsimp only [List.cons_append, List.nil_append]
    repeat first
      | refine Y_res (r_move rfl) rfl ?_
      | refine Y_res (r_add64 rfl rfl (by omega)) rfl ?_
      | refine Y_res (r_eql rfl rfl) rfl ?_
      | refine Y_on rfl rfl ?_
      | refine Y_res (r_len rfl) rfl ?_
      | refine Y_splitT rfl rfl rfl ?_
    refine X_call (g := 18) rfl rfl (fun w1 q1 => (lostI_any (gf := gf) (A := Af) (c := cf) (rs := rs) ((bs.length : Int) + 1) (fdl_in [_, _] q1) (by omega)).mono ?_)
    rintro e w2 ⟨rfl, q2⟩
    refine ⟨_, rfl, _, fdl_out _ q2, ?_⟩
    clear q1 q2
    rw [hf1]
    try dsimp only [List.cons_append, List.nil_append]
    repeat first
      | refine X_nil ?_
      | refine XT_seq ?_
      | refine XC_ret ?_
      | refine Y_res (r_assign rfl) rfl ?_
      | refine Y_res (r_eql rfl rfl) rfl ?_
      | refine Y_on rfl rfl ?_
      | refine Y_res (r_pickT rfl rfl) rfl ?_
    exact XT_says (.inl rfl) Try.results5 rfl rfl
end Go.Proofs.Ytfkhdhdbfejbpaa.Fd
