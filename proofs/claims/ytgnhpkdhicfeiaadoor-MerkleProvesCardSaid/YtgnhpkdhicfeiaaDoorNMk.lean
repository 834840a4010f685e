/- Leaves and nodes of a tree of hashes; copies; lists put one behind the other: walked. -/
import Derived.Test.YtgnhpkdhicfeiaaDoorNSha4
import Derived.Test.YtgnhpkdhicfeiaaDoorMXZ
import Derived.Test.YtgnhpkdhicfeiaaDoorPMerkle
namespace Go.Proofs.YtgnhpkdhicfeiaaDoor.NMk
open Go Go.RowKit Go.Proofs.YtgnhpkdhicfeiaaDoor.MX Go.Proofs.YtgnhpkdhicfeiaaDoor.PSha Go.Proofs.YtgnhpkdhicfeiaaDoor.NSha Go.Proofs.YtgnhpkdhicfeiaaDoor.PMerkle
set_option linter.unusedVariables false
set_option linter.unusedSimpArgs false
set_option linter.unusedVariables false
set_option maxHeartbeats 1000000 in
theorem join_any (a b : List Int) (A A2 : Option Addr) (c c2 : Nat) (w : World) (hr : Rds w A c .u8 a) (hr2 : Rds w A2 c2 .u8 b) (ha : a.length ≤ 100000) (hb : b.length ≤ 100000) :
    Calls Tryd.prog 39 #[.slice A a.length c, .slice A2 b.length c2] w (Tells 5 .u8 w (a ++ b)) := by
  have hkc := hr.le
  have hmc := hr2.le
  refine calls_of_X (vs := [_, _]) (M := Hp w (fun _ => False) []) Tryd.func39 rfl Tryd.ntmps39 rfl (Hp.nil _ _) ?_
  repeat first
    | refine XC_region ?_
    | refine X_nil ?_
    | refine XC_seq ?_
    | refine XT_seq ?_
    | refine XC_ret ?_
    | refine Y_res (r_move rfl) rfl ?_
    | refine Y_res (r_assign rfl) rfl ?_
    | (refine X_buildS (by rfl) (by rfl) (by simp) rfl ?_; intro _ _)
    | (refine X_appendI rfl rfl (fun w_ hM => (by first | exact Rds.old (by assumption) hM old_false | exact rds_sl (PkS.has inferInstance hM))) rfl rfl rfl (by first | omega | (simp only [List.length_nil]; omega)) (by first | omega | (simp only [List.length_nil]; omega)) rfl ?_; intro _ _; try simp only [List.nil_append])
    | (refine X_append rfl rfl (fun w_ hM => (by first | exact Rds.old (by assumption) hM old_false | exact rds_sl (PkS.has inferInstance hM))) rfl rfl rfl (by omega) (by omega) rfl ?_; intro _ _)
  exact XT_tells (.inl rfl) Tryd.results39 rfl rfl
set_option maxHeartbeats 1000000 in
theorem leaf_any (d : List Int) (A : Option Addr) (c : Nat) (w : World) (hr : Rds w A c .u8 d) (hd : d.length ≤ 100000) (hK : KAt KS w) :
    Calls Tryd.prog 22 #[.slice A d.length c] w (Tells 5 .u8 w (leafS d)) := by
  have hle := hr.le
  have hw0 := hK.pos
  refine calls_of_X (vs := [_]) (M := Hp w (fun _ => False) []) Tryd.func22 rfl Tryd.ntmps22 rfl (Hp.nil _ _) ?_
  repeat first
    | refine XC_region ?_
    | refine X_nil ?_
    | refine XC_seq ?_
    | refine XT_seq ?_
    | refine Y_res (r_move rfl) rfl ?_
    | refine Y_res (r_assign rfl) rfl ?_
    | (refine X_buildS (by rfl) (by rfl) (by simp) rfl ?_; intro _ _)
    | (refine X_append rfl rfl (fun w_ hM => (by first | exact Rds.old (by assumption) hM old_false | exact rds_sl (PkS.has inferInstance hM))) rfl rfl rfl (by omega) (by omega) rfl ?_; intro _ _)
    | (refine X_appendI rfl rfl (fun w_ hM => hr.old hM old_false) rfl rfl rfl (by simp only [List.length_cons, List.length_nil]; omega) (by simp only [List.length_cons, List.length_nil]; omega) rfl ?_; intro _ _)
    | refine X_tells (g := 35) (E := 5) (k := .u8) (z := leafS d) rfl rfl (fun w1 hM => sum_any KS (0 :: d) _ _ w1 (rds_sl hM.head) (by simp only [List.length_cons]; omega) (hK.keep hM.chg (fun h => h))) ?_
  intro A3 c3 x3 h3
  subst h3
  repeat first
    | refine X_nil ?_
    | refine XT_seq ?_
    | refine XC_ret ?_
    | refine Y_res (r_assign rfl) rfl ?_
  exact XT_tells (.inl rfl) Tryd.results22 rfl rfl
set_option maxHeartbeats 1000000 in
theorem rleaf_any (d : List Int) (A : Option Addr) (c : Nat) (w : World) (hr : Rds w A c .u8 d) (hd : d.length ≤ 100000) :
    Calls Tryd.prog 26 #[.slice A d.length c] w (Tells 5 .u8 w (leafS d)) := by
  have hle := hr.le
  refine calls_of_X (vs := [_]) (M := Hp w (fun _ => False) []) Tryd.func26 rfl Tryd.ntmps26 rfl (Hp.nil _ _) ?_
  repeat first
    | refine XC_region ?_
    | refine X_nil ?_
    | refine XC_seq ?_
    | refine XT_seq ?_
    | refine Y_res (r_move rfl) rfl ?_
    | refine Y_res (r_assign rfl) rfl ?_
    | (refine X_buildS (by rfl) (by rfl) (by simp) rfl ?_; intro _ _)
    | refine X_tells (g := 39) (E := 5) (k := .u8) (z := 0 :: d) rfl rfl (fun w1 hM => join_any [0] d _ _ _ _ w1 (rds_ints hM.head (by decide) (by decide)) (hr.old hM old_false) (by decide) (by omega)) ?_
  intro A2 c2 x2 h2
  subst h2
  repeat first
    | refine X_tells (g := 32) (E := 5) (k := .u8) (z := leafS d) rfl rfl (fun w1 hM => refsum_any (0 :: d) _ _ w1 (rds_sl hM.head) (by simp only [List.length_cons]; omega)) ?_
  intro A3 c3 x3 h3
  subst h3
  repeat first
    | refine X_nil ?_
    | refine XT_seq ?_
    | refine XC_ret ?_
    | refine Y_res (r_assign rfl) rfl ?_
  exact XT_tells (.inl rfl) Tryd.results26 rfl rfl
set_option maxHeartbeats 1000000 in
theorem rnode_any (a b : List Int) (A A2 : Option Addr) (c c2 : Nat) (w : World) (hr : Rds w A c .u8 a) (hr2 : Rds w A2 c2 .u8 b) (ha : a.length ≤ 10000) (hb : b.length ≤ 10000) :
    Calls Tryd.prog 33 #[.slice A a.length c, .slice A2 b.length c2] w (Tells 5 .u8 w (nodeS a b)) := by
  have hle := hr.le
  have hle2 := hr2.le
  refine calls_of_X (vs := [_, _]) (M := Hp w (fun _ => False) []) Tryd.func33 rfl Tryd.ntmps33 rfl (Hp.nil _ _) ?_
  repeat first
    | refine XC_region ?_
    | refine X_nil ?_
    | refine XC_seq ?_
    | refine XT_seq ?_
    | refine Y_res (r_move rfl) rfl ?_
    | refine Y_res (r_assign rfl) rfl ?_
    | (refine X_buildS (by rfl) (by rfl) (by simp) rfl ?_; intro _ _)
    | refine X_tells (g := 39) (E := 5) (k := .u8) (z := 1 :: a) rfl rfl (fun w1 hM => join_any [1] a _ _ _ _ w1 (rds_ints hM.head (by decide) (by decide)) (hr.old hM old_false) (by decide) (by omega)) ?_
  intro A3 c3 x3 h3
  subst h3
  repeat first
    | refine Y_res (r_move rfl) rfl ?_
    | refine X_tells (g := 39) (E := 5) (k := .u8) (z := 1 :: (a ++ b)) rfl rfl (fun w1 hM => join_any (1 :: a) b _ _ _ _ w1 (rds_sl hM.head) (hr2.old hM old_false) (by simp only [List.length_cons]; omega) (by omega)) ?_
  intro A4 c4 x4 h4
  subst h4
  repeat first
    | refine X_tells (g := 32) (E := 5) (k := .u8) (z := nodeS a b) rfl rfl (fun w1 hM => refsum_any (1 :: (a ++ b)) _ _ w1 (rds_sl hM.head) (by simp only [List.length_cons, List.length_append]; omega)) ?_
  intro A5 c5 x5 h5
  subst h5
  repeat first
    | refine X_nil ?_
    | refine XT_seq ?_
    | refine XC_ret ?_
    | refine Y_res (r_assign rfl) rfl ?_
  exact XT_tells (.inl rfl) Tryd.results33 rfl rfl
set_option maxHeartbeats 1000000 in
/-- A copy (of what is no nil slice; of nothing: nothing). -/
theorem clone_any (a : List Int) (A : Option Addr) (c : Nat) (w : World) (hr : Rds w A c .u8 a) (ha : a.length ≤ 1000000) :
    Calls Tryd.prog 30 #[.slice A a.length c] w (Tells 5 .u8 w a) := by
  have hle := hr.le
  refine calls_of_X (vs := [_]) (M := Hp w (fun _ => False) []) Tryd.func30 rfl Tryd.ntmps30 rfl (Hp.nil _ _) ?_
  cases A with
  | none =>
    have h0 := hr.nil rfl
    have h1 : a = [] := List.eq_nil_of_length_eq_zero (by omega)
    subst h1
    refine XC_mem (M' := Hp w (fun _ => False) [Ch.sl none 0 5 .u8 []]) (fun _ h => h.nilS) ?_
    subst h0
    repeat first
      | refine XC_region ?_
      | refine X_nil ?_
      | refine XC_condT rfl ?_
      | refine XC_seq ?_
      | refine XT_seq ?_
      | refine XT_then_ret ?_
      | refine XC_ret ?_
      | refine Y_res (r_move rfl) rfl ?_
      | refine Y_res (r_assign rfl) rfl ?_
      | refine Y_res (r_eqlS rfl rfl) rfl ?_
    exact XT_tells (.inl rfl) Tryd.results30 rfl rfl
  | some ad =>
    repeat first
      | refine XC_region ?_
      | refine X_nil ?_
      | refine XC_condF rfl ?_
      | refine XC_seq ?_
      | refine XT_seq ?_
      | refine XC_skip ?_
      | refine XC_ret ?_
      | refine Y_res (r_move rfl) rfl ?_
      | refine Y_res (r_assign rfl) rfl ?_
      | refine Y_res (r_eqlS rfl rfl) rfl ?_
      | (refine X_buildS (by rfl) (by rfl) (by simp) rfl ?_; intro _ _)
      | (refine X_appendI rfl rfl (fun w_ hM => hr.old hM old_false) rfl rfl rfl (by simp only [List.length_nil]; omega) (by simp only [List.length_nil]; omega) rfl ?_; intro _ _; try simp only [List.nil_append])
    exact XT_tells (.inl rfl) Tryd.results30 rfl rfl
set_option maxHeartbeats 1000000 in
theorem grow_any (m : Nat) (w : World) (hm : m ≤ 1000000000) : Calls Tryd.prog 54 #[.slice none 0 0, .int .i64 m] w (Tells 5 .u8 w []) := by
  refine calls_of_X (vs := [_, _]) (M := Hp w (fun _ => False) []) Tryd.func54 rfl Tryd.ntmps54 rfl (Hp.nil _ _) ?_
  repeat first
    | refine XC_region ?_
    | refine X_nil ?_
    | refine XC_condF rfl ?_
    | refine XC_seq ?_
    | refine XT_seq ?_
    | refine XC_skip ?_
    | refine Y_res (r_move rfl) rfl ?_
    | refine Y_res (r_assign rfl) rfl ?_
    | refine Y_res (r_sub64 rfl rfl (by omega)) rfl ?_
    | refine Y_res (r_lss rfl rfl) rfl ?_
    | refine Y_res (r_gtr rfl rfl) rfl ?_
    | refine Y_res (r_len rfl) rfl ?_
    | refine Y_res (r_cap rfl) rfl ?_
  refine XC_condP rfl (fun h2 => ?_) (fun h2 => ?_)
  · repeat first
      | refine XC_region ?_
      | refine X_nil ?_
      | refine XC_seq ?_
      | refine XT_seq ?_
      | refine XC_ret ?_
      | refine Y_res (r_move rfl) rfl ?_
      | refine Y_res (r_assign rfl) rfl ?_
      | refine Y_res (r_len rfl) rfl ?_
      | refine Y_res (r_cap rfl) rfl ?_
      | refine Y_res (r_cut0 rfl rfl (by omega)) rfl ?_
      | (refine X_appendZ (m := m) rfl rfl (by omega) (by omega) (by omega) (by omega) rfl ?_; intro _ _)
    rename_i go cap'
    refine XT_mem (M' := Hp w (fun _ => False) [Ch.sl (some ⟨go, 0, none⟩) cap' 5 .u8 []]) (fun w' h => ⟨h.chg, fun x hx => ?_, fun x hx => ?_, List.pairwise_singleton _ _⟩) ?_
    · rw [List.mem_singleton.1 hx]
      exact sl_less 0 h.head (Nat.zero_le _)
    · rw [List.mem_singleton.1 hx]
      exact fun k hk => h.own _ (List.mem_cons_self ..) k hk
    exact XT_tells (.inl rfl) Tryd.results54 rfl rfl
  · refine XC_mem (M' := Hp w (fun _ => False) [Ch.sl none 0 5 .u8 []]) (fun _ h => h.nilS) ?_
    repeat first
      | refine XC_region ?_
      | refine X_nil ?_
      | refine XC_seq ?_
      | refine XT_seq ?_
      | refine XC_skip ?_
      | refine XC_ret ?_
      | refine Y_res (r_move rfl) rfl ?_
      | refine Y_res (r_assign rfl) rfl ?_
    exact XT_tells (.inl rfl) Tryd.results54 rfl rfl
set_option maxHeartbeats 2000000 in
/-- Lists put one behind the other. -/
theorem concat_any (L : List (List Int)) (A : Option Addr) (c : Nat) (w : World) (h : LLs .u8 w A c L) (hL : L.flatten.length ≤ 1000000) :
    Calls Tryd.prog 44 #[.slice A L.length c] w (Tells 5 .u8 w L.flatten) := by
  have hle := h.le
  have hcap := h.cap
  have hsum : ∀ i, ((L.take i).flatten).length ≤ L.flatten.length := fun i => by
    have := congrArg (fun l => (List.flatten l).length) (List.take_append_drop i L)
    simp only [List.flatten_append, List.length_append] at this
    omega
  have hstep : ∀ (i : Nat) (l : List Int), L[i]? = some l → (L.take (i + 1)).flatten = (L.take i).flatten ++ l := fun i l hl => by
    obtain ⟨h1, h2⟩ := List.getElem?_eq_some_iff.1 hl
    rw [List.take_succ_eq_append_getElem h1, h2, List.flatten_append, List.flatten_singleton]
  refine calls_of_X (vs := [_]) (M := Hp w (fun _ => False) []) Tryd.func44 rfl Tryd.ntmps44 rfl (Hp.nil _ _) ?_
  repeat first
    | refine XC_region ?_
    | refine X_nil ?_
    | refine XC_seq ?_
    | refine XT_seq ?_
    | refine XC_block ?_
    | refine Y_res (r_move rfl) rfl ?_
    | refine Y_res (r_assign rfl) rfl ?_
    | refine Y_res (r_len rfl) rfl ?_
  refine XC_loop (ι := Nat) (fun i => i ≤ L.length) (fun i => [(0, .slice A L.length c), (3, .int .i64 (L.take i).flatten.length), (9, .slice A L.length c), (10, .int .i64 L.length), (11, .int .i64 i)]) (fun i => Hp w (fun _ => False) []) (fun i => L.length - i) 0 (Nat.zero_le _) ⟨rfl, rfl, rfl, rfl, rfl, trivial⟩ (fun _ h => h) ?_
  intro i hi
  repeat first
    | refine XC_region ?_
    | refine X_nil ?_
    | refine XC_seq ?_
    | refine XT_seq ?_
    | refine Y_res (r_lss rfl rfl) rfl ?_
  refine XC_condP rfl (fun hlt => ?_) (fun hge => ?_)
  · have hi2 : i < L.length := by omega
    have hA := h.some (by omega)
    obtain ⟨l, hl⟩ : ∃ l, L[i]? = some l := ⟨L[i], List.getElem?_eq_getElem hi2⟩
    obtain ⟨B, d, hcell, hrd⟩ := h.at_ i l hl
    have hst := congrArg List.length (hstep i l hl)
    rw [List.length_append] at hst
    have hs1 := hsum (i + 1)
    repeat first
      | refine XC_region ?_
      | refine X_nil ?_
      | refine XC_condF rfl ?_
      | refine XC_seq ?_
      | refine XT_seq ?_
      | refine XC_block ?_
      | refine XT_block_normal ?_
      | refine XC_skip ?_
      | refine Y_res (r_move rfl) rfl ?_
      | refine Y_res (r_assign rfl) rfl ?_
      | refine Y_res (r_add64 rfl rfl (by omega)) rfl ?_
      | refine Y_res (r_lss rfl rfl) rfl ?_
      | refine Y_res (r_len rfl) rfl ?_
      | refine Y_res (r_indexO rfl rfl hi2 hA) rfl ?_
      | refine Y_res (r_loadO rfl hcell (fun h => h)) rfl ?_
    refine XT_re (e := 3) (v' := .int .i64 (L.take (i + 1)).flatten.length) rfl (by rw [hst]; rfl) ?_
    exact XT_round (i + 1) hi2 (by omega) ⟨rfl, rfl, rfl, rfl, rfl, trivial⟩ (fun _ h => h)
  have hge : i = L.length := by omega
  subst hge
  rw [List.take_length]
  repeat first
    | refine XC_region ?_
    | refine XC_seq ?_
    | refine XT_seq ?_
    | refine XT_block_same rfl ?_
    | refine XT_then_exit ?_
    | refine XC_exit ?_
    | refine Y_res (r_move rfl) rfl ?_
    | refine X_tells (g := 54) (E := 5) (k := .u8) (z := []) rfl rfl (fun w1 hM => grow_any _ w1 (by omega)) ?_
  intro A3 c3 x3 h3
  subst h3
  repeat first
    | refine XC_region ?_
    | refine X_nil ?_
    | refine XC_seq ?_
    | refine XT_seq ?_
    | refine XC_block ?_
    | refine Y_res (r_move rfl) rfl ?_
    | refine Y_res (r_assign rfl) rfl ?_
    | refine Y_res (r_len rfl) rfl ?_
  refine XC_loop (ι := Nat × Option Addr × Nat) (fun s => s.1 ≤ L.length) (fun s => [(0, .slice A L.length c), (6, .slice s.2.1 (L.take s.1).flatten.length s.2.2), (25, .slice A L.length c), (26, .int .i64 L.length), (27, .int .i64 s.1)]) (fun s => Hp w (fun _ => False) [Ch.sl s.2.1 s.2.2 5 .u8 (L.take s.1).flatten]) (fun s => L.length - s.1) (0, A3, c3) (Nat.zero_le _) ⟨rfl, rfl, rfl, rfl, rfl, trivial⟩ (fun _ h => h) ?_
  rintro ⟨i, A4, c4⟩ hi
  dsimp only at hi ⊢
  repeat first
    | refine XC_region ?_
    | refine X_nil ?_
    | refine XC_seq ?_
    | refine XT_seq ?_
    | refine Y_res (r_lss rfl rfl) rfl ?_
  refine XC_condP rfl (fun hlt => ?_) (fun hge => ?_)
  · have hi2 : i < L.length := by omega
    have hA := h.some (by omega)
    obtain ⟨l, hl⟩ : ∃ l, L[i]? = some l := ⟨L[i], List.getElem?_eq_getElem hi2⟩
    obtain ⟨B, d, hcell, hrd⟩ := h.at_ i l hl
    have hst0 := hstep i l hl
    have hst := congrArg List.length hst0
    rw [List.length_append] at hst
    have hs1 := hsum (i + 1)
    repeat first
      | refine XC_region ?_
      | refine X_nil ?_
      | refine XC_seq ?_
      | refine XT_seq ?_
      | refine XC_block ?_
      | refine XT_block_normal ?_
      | refine XC_skip ?_
      | refine Y_res (r_move rfl) rfl ?_
      | refine Y_res (r_assign rfl) rfl ?_
      | refine Y_res (r_add64 rfl rfl (by omega)) rfl ?_
      | refine Y_res (r_indexO rfl rfl hi2 hA) rfl ?_
      | refine Y_res (r_loadO rfl hcell (fun h => h)) rfl ?_
      | (refine X_append rfl rfl (fun w_ hM => hrd.old hM old_false) rfl rfl rfl (by omega) (by omega) rfl ?_; intro _ _)
    rename_i A5 c5
    rw [← hst0]
    exact XT_round (i + 1, A5, c5) hi2 (by dsimp only; omega) ⟨rfl, rfl, rfl, rfl, rfl, trivial⟩ (fun _ h => h)
  · have hge : i = L.length := by omega
    subst hge
    rw [List.take_length]
    repeat first
      | refine XC_region ?_
      | refine X_nil ?_
      | refine XC_seq ?_
      | refine XT_seq ?_
      | refine XT_block_same rfl ?_
      | refine XT_then_exit ?_
      | refine XC_exit ?_
      | refine XC_ret ?_
      | refine Y_res (r_move rfl) rfl ?_
      | refine Y_res (r_assign rfl) rfl ?_
    exact XT_tells (.inl rfl) Tryd.results44 rfl rfl
set_option maxHeartbeats 1000000 in
theorem node_any (a b : List Int) (A A2 : Option Addr) (c c2 : Nat) (w : World) (hr : Rds w A c .u8 a) (hr2 : Rds w A2 c2 .u8 b) (ha : a.length ≤ 10000) (hb : b.length ≤ 10000) (hK : KAt KS w) :
    Calls Tryd.prog 34 #[.slice A a.length c, .slice A2 b.length c2] w (Tells 5 .u8 w (nodeS a b)) := by
  have hle := hr.le
  have hle2 := hr2.le
  have hw0 := hK.pos
  refine calls_of_X (vs := [_, _]) (M := Hp w (fun _ => False) []) Tryd.func34 rfl Tryd.ntmps34 rfl (Hp.nil _ _) ?_
  repeat first
    | refine XC_region ?_
    | refine X_nil ?_
    | refine XC_seq ?_
    | refine XT_seq ?_
    | refine Y_res (r_move rfl) rfl ?_
    | refine Y_res (r_assign rfl) rfl ?_
    | (refine X_buildS (by rfl) (by rfl) (by simp) rfl ?_; intro _ _)
    | (refine X_buildV rfl rfl (fun u hu => by simp at hu; rcases hu with h | h | h <;> rw [h] <;> rfl) rfl (by simp) rfl ?_; intro _ _)
  refine X_tells (g := 44) (E := 5) (k := .u8) (z := 1 :: (a ++ b)) rfl rfl (fun w1 hM => Tells.re (concat_any [[1], a, b] _ _ w1 (lls_blk hM.head (Nat.le_refl 3) (by decide) (fun i l hi => by
        match i, hi with
        | 0, hi => obtain rfl := Option.some.inj hi; exact ⟨_, _, rfl, rds_ints hM.tail.head (by decide) (by decide)⟩
        | 1, hi => obtain rfl := Option.some.inj hi; exact ⟨_, _, rfl, hr.old hM old_false⟩
        | 2, hi => obtain rfl := Option.some.inj hi; exact ⟨_, _, rfl, hr2.old hM old_false⟩)) (by simp only [List.flatten_cons, List.flatten_nil, List.length_append, List.length_cons, List.length_nil]; omega)) (by simp)) ?_
  intro A3 c3 x3 h3
  subst h3
  repeat first
    | refine X_tells (g := 35) (E := 5) (k := .u8) (z := nodeS a b) rfl rfl (fun w1 hM => sum_any KS (1 :: (a ++ b)) _ _ w1 (rds_sl hM.head) (by simp only [List.length_cons, List.length_append]; omega) (hK.keep hM.chg (fun h => h))) ?_
  intro A4 c4 x4 h4
  subst h4
  repeat first
    | refine X_nil ?_
    | refine XT_seq ?_
    | refine XC_ret ?_
    | refine Y_res (r_assign rfl) rfl ?_
  exact XT_tells (.inl rfl) Tryd.results34 rfl rfl
end Go.Proofs.YtgnhpkdhicfeiaaDoor.NMk
