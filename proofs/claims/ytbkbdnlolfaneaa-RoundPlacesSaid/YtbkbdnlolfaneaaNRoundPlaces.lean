/- RoundPlaces, walked: true at every input. -/
import Derived.Test.YtbkbdnlolfaneaaNRound6
import Derived.Test.YtbkbdnlolfaneaaNSame
import Derived.Test.YtbkbdnlolfaneaaMXO
namespace Go.Proofs.Ytbkbdnlolfaneaa.NRound
open Go Go.RowKit Go.Proofs.Ytbkbdnlolfaneaa.MX Go.Proofs.Ytbkbdnlolfaneaa.PRound
set_option linter.unusedVariables false
set_option linter.unusedSimpArgs false
set_option linter.unusedVariables false
def shPls := shSl Try.underlying48 (shSl Try.underlying29 (shInt .i64 Try.underlying3))
abbrev PlD := Option Addr × Nat × List Int
theorem pls_at {w : World} {l : List PlD} {A : Option Addr} {c : Nat} (h : shPls.has w [.slice A l.length c] (A, c, l)) :
    (0 < l.length → A = some (adOf A)) ∧ l.length ≤ c ∧ c ≤ 9223372036854775807 ∧ ∀ (j : Nat) (o : PlD), l[j]? = some o → w.cell? ((adOf A).add j) = some (.slice o.1 o.2.2.length o.2.1) ∧ Rds w o.1 o.2.1 .i64 o.2.2 ∧ ∀ n ∈ o.2.2, (Lit.int .i64 n).wf = true := by
  have hc : Try.prog.cellsOf 29 = 1 := by kernel_rfl
  have hcell := fun (j : Nat) (o : PlD) (hj : l[j]? = some o) => shSl_cell hc h (j := j) (x := o) hj
  obtain ⟨h1, h2, h3, h4, _, h5⟩ := h
  have hm : maxLen ≤ 9223372036854775807 := by decide
  refine ⟨fun hp => ?_, h2, Nat.le_trans h3 hm, fun j o hj => ?_⟩
  · cases A with
    | none => have := h4 rfl; dsimp only at this h2; omega
    | some a => rfl
  obtain ⟨v, k1, k2⟩ := hcell j o hj
  obtain ⟨r1, r2, r3⟩ := shSl_ints (by kernel_rfl) k2
  obtain rfl := (List.cons.inj r1).1
  exact ⟨k1, r2, r3⟩
/-- The places of a row, as truth values. -/
def mkP (row : List Int) : List Bool := row.foldl (fun h p => if 0 ≤ p ∧ p < 256 then h.set p.toNat true else h) (List.replicate 256 false)
theorem mkP_snoc (row : List Int) (p : Int) : mkP (row ++ [p]) = if 0 ≤ p ∧ p < 256 then (mkP row).set p.toNat true else mkP row := by
  unfold mkP
  rw [List.foldl_append]
  rfl
theorem fold_len : ∀ (row : List Int) (h : List Bool), (row.foldl (fun h p => if 0 ≤ p ∧ p < 256 then h.set p.toNat true else h) h).length = h.length
  | [], h => rfl
  | p :: row, h => by
    rw [List.foldl_cons, fold_len row]
    split <;> simp
theorem mkP_len (row : List Int) : (mkP row).length = 256 := by unfold mkP; rw [fold_len, List.length_replicate]
theorem wf_i64 {x : Int} (h : -9223372036854775808 ≤ x ∧ x ≤ 9223372036854775807) : (Lit.int .i64 x).wf = true := by
  show (decide (IntKind.i64.min ≤ x) && decide (x ≤ IntKind.i64.max)) = true
  rw [Bool.and_eq_true, decide_eq_true_eq, decide_eq_true_eq]
  have e1 : IntKind.i64.min = -9223372036854775808 := by decide
  have e2 : IntKind.i64.max = 9223372036854775807 := by decide
  omega
theorem packB_bytes {L : List (List Bool)} {m : Int} {z : List Int} (h : packB L m = some z) : (∀ x ∈ z, 0 ≤ x ∧ x < 256) ∧ z.length ≤ 10000 ∧ L.length ≤ 16 := by
  by_cases h0 : packOk L m
  · have hz := h0
    obtain ⟨k1, k2, k3, k4, k5⟩ := h0
    rw [packB, if_pos hz] at h
    obtain rfl := Option.some.inj h
    refine ⟨fun x hx => ?_, by simp only [List.length_append, List.length_replicate, endsP_len]; omega, k3⟩
    rcases List.mem_append.1 hx with hx | hx
    · rcases List.mem_append.1 hx with hx | hx
      · obtain ⟨l, hl, hxl⟩ := List.mem_flatMap.1 hx
        obtain ⟨k, hk, rfl, _⟩ := (plc_mem l 0 x).1 hxl
        have := k4 l hl
        omega
      · have := List.eq_of_mem_replicate hx
        omega
    · obtain ⟨j, _, rfl⟩ := List.mem_map.1 hx
      have := allP_take_le L (j + 1)
      omega
  · rw [not_packB h0] at h
    cases h
set_option maxRecDepth 100000 in
set_option maxHeartbeats 8000000 in
theorem places_any (l : List PlD) (A : Option Addr) (c : Nat) (m : Int) (w : World) (h : shPls.has w [.slice A l.length c] (A, c, l)) (hm : (Lit.int .i64 m).wf = true) :
    Calls Try.prog 9 #[.slice A l.length c, .int .i64 m] w fun e w' => e = .returned (.bool true) ∧ Chg (fun _ => False) w w' := by
  obtain ⟨hA, hlc, hcm, hat⟩ := pls_at h
  have hat := Lib.hid hat
  clear h
  refine calls_of_X (Rr := Says w (.bool true)) (vs := [_, _]) (M := Hp w (fun _ => False) []) Try.func9 rfl Try.ntmps9 rfl (Hp.nil _ _) ?_
  repeat first
    | refine XC_region ?_
    | refine X_nil ?_
    | refine XC_condF rfl ?_
    | refine XC_seq ?_
    | refine XT_seq ?_
    | refine XC_skip ?_
    | refine Y_res (r_move rfl) rfl ?_
    | refine Y_res (r_assign rfl) rfl ?_
    | refine Y_res (r_gtr rfl rfl) rfl ?_
    | refine Y_res (r_notB rfl) rfl ?_
    | refine Y_res (r_len rfl) rfl ?_
    | refine Y_says (g := 11) rfl rfl (fun w1 hM => anchor_any w1) ?_
  refine XC_condP rfl (fun h1 => ?_) (fun h1 => ?_)
  · repeat first
      | refine XC_region ?_
      | refine X_nil ?_
      | refine XC_seq ?_
      | refine XT_seq ?_
      | refine XT_then_ret ?_
      | refine XC_ret ?_
      | refine Y_res (r_assign rfl) rfl ?_
    exact XT_says (.inl rfl) Try.results9 rfl rfl
  repeat first
    | refine XC_region ?_
    | refine X_nil ?_
    | refine XC_seq ?_
    | refine XT_seq ?_
    | refine XC_block ?_
    | refine XC_skip ?_
    | refine Y_res (r_move rfl) rfl ?_
    | refine Y_res (r_assign rfl) rfl ?_
    | refine Y_res (r_len rfl) rfl ?_
  refine XC_mem (M' := Hp w (fun _ => False) [Ch.sv none 0 46 1 0 [], Ch.bag w []]) (fun _ h => (h.bag0).nilV _ _) ?_
  refine XC_loop (ι := Nat × List It × Option Addr × Nat) (fun s => s.1 ≤ l.length ∧ s.2.1.length = s.1 ∧ ∀ (j : Nat) (it : It) (o : PlD), s.2.1[j]? = some it → l[j]? = some o → it.vs = (mkP o.2.2).map Value.bool) (fun s => [(1, .int .i64 m), (5, .slice s.2.2.1 s.1 s.2.2.2), (22, .slice A l.length c), (23, .int .i64 l.length), (24, .int .i64 s.1)])
    (fun s => Hp w (fun _ => False) [Ch.sv s.2.2.1 s.2.2.2 46 1 s.1 (s.2.1.map It.val), Ch.bag w s.2.1]) (fun s => l.length - s.1) (0, [], none, 0) ⟨Nat.zero_le _, rfl, fun j it o h => by simp at h⟩ ⟨rfl, rfl, rfl, rfl, rfl, trivial⟩ (fun _ h => h) ?_
  rintro ⟨i, its, A5, c5⟩ ⟨hi, hil, hiv⟩
  dsimp only at hi hil hiv ⊢
  repeat first
    | refine XC_region ?_
    | refine X_nil ?_
    | refine XC_seq ?_
    | refine XT_seq ?_
    | refine Y_res (r_lss rfl rfl) rfl ?_
  refine XC_condP rfl (fun hlt => ?_) (fun hge => ?_)
  · have hi2 : i < l.length := by omega
    have hA2 := hA (by omega)
    obtain ⟨o, ho⟩ : ∃ o, l[i]? = some o := ⟨l[i], List.getElem?_eq_getElem hi2⟩
    obtain ⟨hcell, hrd, hwf⟩ := hat.out i o ho
    obtain ⟨B, d, row⟩ := o
    dsimp only at hcell hrd hwf
    have hrle := hrd.le
    have hrcap := hrd.cap
    have hwf := Lib.hid hwf
    repeat first
      | refine XC_region ?_
      | refine X_nil ?_
      | refine XC_seq ?_
      | refine XT_seq ?_
      | refine XC_block ?_
      | refine XC_skip ?_
      | refine Y_res (r_move rfl) rfl ?_
      | refine Y_res (r_assign rfl) rfl ?_
      | refine Y_res (r_len rfl) rfl ?_
      | refine Y_res (r_indexO rfl rfl hi2 hA2) rfl ?_
      | refine Y_res (r_loadO rfl hcell (fun h => h)) rfl ?_
      | (refine X_makeV rfl rfl rfl (by omega) (by omega) (by omega) rfl ?_; intro _ _)
    rename_i g hg
    have e0 : List.replicate 256 (Value.bool false) = (mkP (row.take 0)).map Value.bool := by
      rw [List.take_zero]
      show _ = (List.replicate 256 false).map Value.bool
      rw [List.map_replicate]
    rw [e0]
    refine XC_loop (ι := Nat) (fun k => k ≤ row.length) (fun k => [(1, .int .i64 m), (5, .slice A5 i c5), (8, .slice (some ⟨g, 0, none⟩) 256 256), (22, .slice A l.length c), (23, .int .i64 l.length), (24, .int .i64 i), (29, .slice B row.length d), (30, .int .i64 row.length), (31, .int .i64 k)])
      (fun k => Hp w (fun _ => False) [Ch.sv (some ⟨g, 0, none⟩) 256 4 1 256 ((mkP (row.take k)).map Value.bool), Ch.sv A5 c5 46 1 i (its.map It.val), Ch.bag w its]) (fun k => row.length - k) 0 (Nat.zero_le _) ⟨rfl, rfl, rfl, rfl, rfl, rfl, rfl, rfl, rfl, trivial⟩ (fun _ h => h) ?_
    intro k hk
    repeat first
      | refine XC_region ?_
      | refine X_nil ?_
      | refine XC_seq ?_
      | refine XT_seq ?_
      | refine Y_res (r_lss rfl rfl) rfl ?_
    refine XC_condP rfl (fun hlt2 => ?_) (fun hge2 => ?_)
    · have hk2 : k < row.length := by omega
      have hst : row.take (k + 1) = row.take k ++ [row.getD k 0] := by rw [List.take_succ_eq_append_getElem hk2, List.getD_eq_getElem?_getD, List.getElem?_eq_getElem hk2]; rfl
      have hml : ((mkP (row.take k)).map Value.bool).length = 256 := by rw [List.length_map, mkP_len]
      have hsn := mkP_snoc (row.take k) (row.getD k 0)
      rw [← hst] at hsn
      repeat first
        | refine XC_region ?_
        | refine X_nil ?_
        | refine XC_seq ?_
        | refine XT_seq ?_
        | refine XC_block ?_
        | refine XC_skip ?_
        | refine Y_res (r_move rfl) rfl ?_
        | refine Y_res (r_assign rfl) rfl ?_
        | refine Y_res (r_geq rfl rfl) rfl ?_
        | refine Y_res (r_indexR rfl rfl (by assumption) (by omega) (by omega)) rfl ?_
        | refine Y_res (r_loadR rfl (by assumption) (by first | exact old_false | assumption) (by omega)) rfl ?_
      refine Y_split rfl rfl (fun h2 => ?_) (fun h2 => ?_)
      · repeat first
          | refine X_nil ?_
          | refine XT_seq ?_
          | refine Y_res (r_move rfl) rfl ?_
          | refine Y_res (r_lss rfl rfl) rfl ?_
          | refine Y_on rfl rfl ?_
          | refine Y_res (r_pickT rfl rfl) rfl ?_
        refine XC_condP rfl (fun h3 => ?_) (fun h3 => ?_)
        · rw [if_pos ⟨h2, h3⟩] at hsn
          repeat first
            | refine XC_region ?_
            | refine X_nil ?_
            | refine XT_seq ?_
            | refine XT_block_normal ?_
            | refine Y_res (r_move rfl) rfl ?_
            | refine Y_res (r_add64 rfl rfl (by omega)) rfl ?_
            | refine Y_res (r_indexV0T rfl rfl h2 (by omega) (Nat.le_refl _)) rfl ?_
            | refine X_storeV rfl rfl rfl (by rw [hml]; omega) ?_
          exact XT_round (k + 1) hk2 (by omega) ⟨rfl, rfl, rfl, rfl, rfl, rfl, rfl, rfl, rfl, trivial⟩ (fun _ h => by rw [hsn, List.map_set]; exact h)
        · rw [if_neg (fun q => h3 q.2)] at hsn
          repeat first
            | refine XC_region ?_
            | refine X_nil ?_
            | refine XT_seq ?_
            | refine XT_block_normal ?_
            | refine XC_skip ?_
            | refine Y_res (r_move rfl) rfl ?_
            | refine Y_res (r_add64 rfl rfl (by omega)) rfl ?_
          exact XT_round (k + 1) hk2 (by omega) ⟨rfl, rfl, rfl, rfl, rfl, rfl, rfl, rfl, rfl, trivial⟩ (fun _ h => by rw [hsn]; exact h)
      · rw [if_neg (fun q => h2 q.1)] at hsn
        repeat first
          | refine XC_region ?_
          | refine X_nil ?_
          | refine XC_condF rfl ?_
          | refine XT_seq ?_
          | refine XT_block_normal ?_
          | refine XC_skip ?_
          | refine Y_res (r_move rfl) rfl ?_
          | refine Y_res (r_add64 rfl rfl (by omega)) rfl ?_
          | refine Y_off rfl rfl rfl ?_
          | refine Y_res (r_pickF rfl rfl) rfl ?_
        exact XT_round (k + 1) hk2 (by omega) ⟨rfl, rfl, rfl, rfl, rfl, rfl, rfl, rfl, rfl, trivial⟩ (fun _ h => by rw [hsn]; exact h)
    · obtain rfl : k = row.length := by omega
      rw [List.take_length]
      repeat first
        | refine XC_region ?_
        | refine X_nil ?_
        | refine XT_seq ?_
        | refine XT_block_normal ?_
        | refine XT_block_same rfl ?_
        | refine XT_then_exit ?_
        | refine XC_exit ?_
        | refine Y_res (r_move rfl) rfl ?_
        | refine Y_res (r_assign rfl) rfl ?_
        | refine Y_res (r_add64 rfl rfl (by omega)) rfl ?_
        | (refine X_buildV rfl rfl (fun u hu => by simp at hu; rw [hu]; rfl) rfl (by simp) rfl ?_; intro _ _)
        | (refine X_appendV rfl rfl (fun w_ hM => rdv_blk (r := []) hM.head (List.append_nil _).symm rfl (Nat.le_refl 1) (by decide)) (fun u hu => by simp at hu; rw [hu]; rfl) rfl (by decide) rfl rfl (by omega) (by omega) rfl ?_; intro _ _)
      rename_i g2 hg2 A6 c6
      refine XT_round (i + 1, its ++ [⟨some ⟨g, 0, none⟩, 256, 256, (mkP row).map Value.bool⟩], A6, c6) ⟨hi2, by simp [hil], fun j it o hj hjo => ?_⟩ (by dsimp only; omega) ⟨rfl, rfl, rfl, rfl, rfl, trivial⟩ (fun _ h => ?_)
      · dsimp only at hj
        rcases Nat.lt_or_ge j its.length with hj2 | hj2
        · rw [List.getElem?_append_left hj2] at hj
          exact hiv j it o hj hjo
        · rw [List.getElem?_append_right hj2] at hj
          have h0 : j - its.length = 0 := by
            have := (List.getElem?_eq_some_iff.1 hj).1
            simpa using this
          rw [h0] at hj
          have hj := Option.some.inj hj
          rw [← hj]
          obtain rfl : j = i := by omega
          rw [ho] at hjo
          rw [← Option.some.inj hjo]
      · have h2 := h.tail.of_perm (List.Perm.cons _ (List.Perm.swap _ _ _))
        have h3 := (h2.bagV.bagSub (jts := its ++ [⟨some ⟨g, 0, none⟩, 256, 256, (mkP row).map Value.bool⟩]) (fun it hit => by
          rcases List.mem_append.1 hit with hit | hit
          · exact List.mem_cons_of_mem _ hit
          · rw [List.mem_singleton.1 hit]; exact List.mem_cons_self ..)).swap
        dsimp only
        rw [List.map_append]
        exact h3
  · obtain rfl : i = l.length := by omega
    obtain ⟨L, hL⟩ : ∃ L, L = l.map (fun o : PlD => mkP o.2.2) := ⟨_, rfl⟩
    have hLl : L.length = l.length := by rw [hL, List.length_map]
    refine XC_base (S1 := fun _ => False) (fun w1 hw1 => ?_)
    have hBL : BLs w1 A5 c5 L := bls_of hw1 hil hLl (fun j it l' h1 h2 => by
      rw [hL, List.getElem?_map] at h2
      obtain ⟨o, ho⟩ : ∃ o, l[j]? = some o := by
        cases hq : l[j]? with
        | none => rw [hq] at h2; cases h2
        | some o => exact ⟨o, rfl⟩
      rw [ho] at h2
      rw [hiv j it o h1 ho, ← Option.some.inj h2])
    have k1 : Chg (fun _ => False) w w1 := hw1.chg
    clear hw1 hiv hat
    rw [← hLl]
    repeat first
      | refine XC_region ?_
      | refine XC_seq ?_
      | refine XT_seq ?_
      | refine XT_block_same rfl ?_
      | refine XT_then_exit ?_
      | refine XC_exit ?_
      | refine Y_res (r_move rfl) rfl ?_
    refine X_call (g := 29) rfl rfl (fun w2 q2 => (pack_any L A5 c5 m w2 (hBL.keep q2.chg) hm).mono ?_)
    rintro e w3 ⟨v, rfl, ⟨A2, c2, rfl, hp3, hf3⟩, g3⟩
    refine ⟨_, rfl, _, q2.add g3 hp3 hf3, ?_⟩
    clear q2 hp3 hf3 g3
    repeat first
      | refine XC_region ?_
      | refine X_nil ?_
      | refine XC_seq ?_
      | refine XT_seq ?_
      | refine Y_res (r_move rfl) rfl ?_
      | refine Y_res (r_assign rfl) rfl ?_
      | refine Y_res (r_extract rfl rfl) rfl ?_
    refine X_call (g := 30) rfl rfl (fun w4 q4 => (refpack_any L A5 c5 m w4 (hBL.keep q4.chg) hm).mono ?_)
    rintro e w5 ⟨v, rfl, ⟨A4, c4, rfl, hp5, hf5⟩, g5⟩
    refine ⟨_, rfl, _, q4.add g5 hp5 hf5, ?_⟩
    clear q4 hp5 hf5 g5
    repeat first
      | refine XC_region ?_
      | refine X_nil ?_
      | refine XC_seq ?_
      | refine XT_seq ?_
      | refine Y_res (r_move rfl) rfl ?_
      | refine Y_res (r_assign rfl) rfl ?_
      | refine Y_res (r_neqB rfl rfl) rfl ?_
      | refine Y_res (r_extract rfl rfl) rfl ?_
    refine Y_re (e := 65) (v' := .bool false) rfl (by simp) ?_
    repeat first
      | refine X_nil ?_
      | refine XT_seq ?_
      | refine Y_res (r_move rfl) rfl ?_
      | refine Y_on rfl rfl ?_
      | refine Y_res (r_notB rfl) rfl ?_
      | refine Y_res (r_pickF rfl rfl) rfl ?_
      | refine Y_says (g := 18) rfl rfl (fun w1 hM => NSame.same_any _ _ _ _ _ _ w1 (rds_sl hM.tail.head) (rds_sl hM.head)) ?_
    refine XC_re (e := 70) (v' := .bool false) rfl (by simp) ?_
    cases hpk : packB L m with
    | none =>
      repeat first
        | refine XC_region ?_
        | refine X_nil ?_
        | refine XC_condT rfl ?_
        | refine XC_condF rfl ?_
        | refine XC_seq ?_
        | refine XT_seq ?_
        | refine XT_then_ret ?_
        | refine XC_skip ?_
        | refine XC_ret ?_
        | refine Y_res (r_move rfl) rfl ?_
        | refine Y_res (r_assign rfl) rfl ?_
        | refine Y_res (r_notB rfl) rfl ?_
      exact XT_ret1 (.inl rfl) Try.results9 rfl (fun w' h => ⟨rfl, k1.over h.chg (fun _ _ h => h)⟩)
    | some z =>
      obtain ⟨hzl, hzn, hL16⟩ := packB_bytes hpk
      repeat first
        | refine XC_region ?_
        | refine X_nil ?_
        | refine XC_condF rfl ?_
        | refine XC_seq ?_
        | refine XT_seq ?_
        | refine XC_skip ?_
        | refine Y_res (r_move rfl) rfl ?_
        | refine Y_res (r_notB rfl) rfl ?_
        | refine Y_res (r_len rfl) rfl ?_
      refine X_call (g := 31) rfl rfl (fun w6 q6 => (unp_any z A2 c2 L.length m w6 (rds_sl q6.tail.head) hzl (wf_i64 (by omega)) hm hzn).mono ?_)
      rw [unpB_of_pack hpk]
      rintro e w7 ⟨A6, c6, rfl, hB6, g7⟩
      have k7 : Chg (fun _ => False) w1 w7 := q6.chg.over g7 (fun _ _ h => h)
      refine ⟨_, rfl, Hp w7 (fun _ => False) [], Hp.nil _ _, ?_⟩
      clear q6 g7
      have hBL7 := hBL.keep k7
      repeat first
        | refine XC_region ?_
        | refine X_nil ?_
        | refine XC_seq ?_
        | refine XT_seq ?_
        | refine XC_ret ?_
        | refine Y_res (r_move rfl) rfl ?_
        | refine Y_res (r_assign rfl) rfl ?_
        | refine Y_on rfl rfl ?_
        | refine Y_res (r_extract rfl rfl) rfl ?_
        | refine Y_res (r_pickT rfl rfl) rfl ?_
        | refine Y_says (g := 32) rfl rfl (fun w1 hM => samel_any _ _ _ _ _ _ w1 (hB6.keep hM.chg) (hBL7.keep hM.chg)) ?_
      refine XT_ret1 (.inl rfl) Try.results9 rfl (fun w' h => ⟨by simp, k1.over (k7.over h.chg (fun _ _ h => h)) (fun _ _ h => h)⟩)
end Go.Proofs.Ytbkbdnlolfaneaa.NRound
