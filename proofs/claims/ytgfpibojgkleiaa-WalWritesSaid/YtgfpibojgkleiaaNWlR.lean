/- The reference's sectors of a record, and the sectors that a disk holds: walked. -/
import Derived.Test.YtgfpibojgkleiaaNWlA
import Derived.Test.YtgfpibojgkleiaaMXD
namespace Go.Proofs.Ytgfpibojgkleiaa.NWl
open Go Go.RowKit Go.Proofs.Ytgfpibojgkleiaa.MX Go.Proofs.Ytgfpibojgkleiaa.PWal Go.Proofs.Ytgfpibojgkleiaa.NPl
set_option linter.unusedVariables false
set_option linter.unusedSimpArgs false
set_option linter.unusedVariables false
theorem be_get {n k m : Nat} (hm : m < k) : (be n k)[m]? = some ((n / 256 ^ (k - 1 - m) % 256 : Nat) : Int) := by
  rw [be, List.getElem?_map, List.getElem?_range hm]
  rfl
theorem be_set {n k j m : Nat} (hj : j < k) (hm : m = k - 1 - j) :
    (List.replicate (k - j) (0 : Int) ++ (be n k).drop (k - j)).set m (((n / 256 ^ j : Nat) : Int) % 256) = List.replicate (k - (j + 1)) 0 ++ (be n k).drop (k - (j + 1)) := by
  have h := be_get (n := n) (k := k) (m := m) (by omega)
  obtain ⟨h1, h2⟩ := List.getElem?_eq_some_iff.1 h
  rw [show k - (j + 1) = m by omega, show k - j = m + 1 by omega, List.drop_eq_getElem_cons h1, h2, List.set_append_left _ _ (by simp), show k - 1 - m = j by omega]
  rw [List.replicate_succ' (n := m), List.set_append_right _ _ (by simp), List.length_replicate, Nat.sub_self, List.set_cons_zero, List.append_assoc]
  rfl
set_option maxHeartbeats 1000000 in
theorem rbig_any (n k : Nat) (w : World) (hk : k ≤ 8) (hn : n < 9223372036854775808) : Calls Try.prog 35 #[.int .i64 n, .int .i64 k] w (Tells 5 .u8 w (be n k)) := by
  refine calls_of_X (vs := [_, _]) (M := Hp w (fun _ => False) []) Try.func35 rfl Try.ntmps35 rfl (Hp.nil _ _) ?_
  repeat first
    | refine XC_region ?_
    | refine X_nil ?_
    | refine XC_seq ?_
    | refine XT_seq ?_
    | refine XC_block ?_
    | refine Y_res (r_move rfl) rfl ?_
    | refine Y_res (r_assign rfl) rfl ?_
    | refine Y_res (r_sub64 rfl rfl (by omega)) rfl ?_
    | (refine X_make rfl rfl (by omega) (by omega) (by omega) rfl ?_; intro _ _)
  rename_i g hg
  have e0 : List.replicate k (0 : Int) = List.replicate (k - 0) 0 ++ (be n k).drop (k - 0) := by rw [Nat.sub_zero, List.drop_eq_nil_of_le (by rw [be_len]; omega), List.append_nil]
  have el : ∀ j, j ≤ k → (List.replicate (k - j) (0 : Int) ++ (be n k).drop (k - j)).length = k := fun j hj => by simp [be_len]
  refine XC_re (e := 6) (v' := .int .i64 ((k : Int) - 1 - ((0 : Nat) : Int))) rfl (by simp) ?_
  refine XC_re (e := 0) (v' := .int .i64 ((n / 256 ^ 0 : Nat) : Int)) rfl (by simp) ?_
  refine XC_loop (ι := Nat) (fun j => j ≤ k) (fun j => [(0, .int .i64 ((n / 256 ^ j : Nat) : Int)), (5, .slice (some ⟨g, 0, none⟩) k k), (6, .int .i64 ((k : Int) - 1 - (j : Nat)))]) (fun j => Hp w (fun _ => False) [Ch.sl (some ⟨g, 0, none⟩) k 5 .u8 (List.replicate (k - j) 0 ++ (be n k).drop (k - j))]) (fun j => k - j) 0 (Nat.zero_le _) ⟨rfl, rfl, rfl, trivial⟩ (fun _ h => by rw [← e0]; exact h) ?_
  intro j hj
  have e1 := el j hj
  repeat first
    | refine XC_region ?_
    | refine X_nil ?_
    | refine XC_seq ?_
    | refine XT_seq ?_
    | refine Y_res (r_move rfl) rfl ?_
    | refine Y_res (r_geq rfl rfl) rfl ?_
  refine XC_condP rfl (fun hlt => ?_) (fun hge => ?_)
  · have hj2 : j < k := by omega
    obtain ⟨m, hm⟩ : ∃ m, m = k - 1 - j := ⟨_, rfl⟩
    have hs := be_set (n := n) hj2 hm
    have hq : n / 256 ^ (j + 1) = n / 256 ^ j / 256 := by rw [Nat.pow_succ, Nat.div_div_eq_div_mul]
    have hle : n / 256 ^ j ≤ n := Nat.div_le_self _ _
    refine XC_re (e := 6) (v' := .int .i64 (m : Nat)) rfl (by congr 1; omega) ?_
    generalize n / 256 ^ j = nj at *
    repeat first
      | refine XC_region ?_
      | refine X_nil ?_
      | refine XC_seq ?_
      | refine XT_seq ?_
      | refine XC_block ?_
      | refine XT_block_normal ?_
      | refine XC_skip ?_
      | refine Y_res (r_move rfl) rfl ?_
      | refine Y_res (r_assign rfl) rfl ?_
      | refine Y_res (r_sub64 rfl rfl (by omega)) rfl ?_
      | refine Y_res (r_shr rfl rfl rfl) rfl ?_
      | refine Y_res (r_conv8 rfl) rfl ?_
      | refine Y_res (r_indexS rfl rfl (by omega) (by first | omega | (simp only [List.length_set, List.length_replicate]; omega))) rfl ?_
      | refine X_storeI rfl rfl (by first | omega | (simp only [List.length_set, List.length_replicate]; omega)) ?_
    rw [hs]
    refine XT_re (e := 6) (v' := .int .i64 ((k : Int) - 1 - ((j + 1 : Nat) : Int))) rfl (by congr 1; omega) ?_
    refine XT_re (e := 0) (v' := .int .i64 ((n / 256 ^ (j + 1) : Nat) : Int)) rfl (by rw [hq]; rfl) ?_
    exact XT_round (j + 1) hj2 (by omega) ⟨rfl, rfl, rfl, trivial⟩ (fun _ h => h)
  · obtain rfl : j = k := by omega
    have e3 : List.replicate (j - j) (0 : Int) ++ (be n j).drop (j - j) = be n j := by simp
    have e4 : (be n j).length = j := be_len n j
    rw [e3]
    repeat first
      | refine XC_region ?_
      | refine X_nil ?_
      | refine XC_seq ?_
      | refine XT_seq ?_
      | refine XT_block_same rfl ?_
      | refine XT_then_exit ?_
      | refine XC_exit ?_
      | refine XC_ret ?_
      | refine Y_res (r_move rfl) rfl ?_
      | refine Y_res (r_assign rfl) rfl ?_
    exact XT_tells (.inl rfl) Try.results35 rfl (by simp [be_len])
set_option maxHeartbeats 1000000 in
theorem rjoin_any (a b : List Int) (A A2 : Option Addr) (c c2 : Nat) (w : World) (hr : Rds w A c .u8 a) (hr2 : Rds w A2 c2 .u8 b) (ha : a.length ≤ 100000) (hb : b.length ≤ 100000) :
    Calls Try.prog 34 #[.slice A a.length c, .slice A2 b.length c2] w (Tells 5 .u8 w (a ++ b)) := by
  have hkc := hr.le
  have hmc := hr2.le
  refine calls_of_X (vs := [_, _]) (M := Hp w (fun _ => False) []) Try.func34 rfl Try.ntmps34 rfl (Hp.nil _ _) ?_
  repeat first
    | refine XC_region ?_
    | refine X_nil ?_
    | refine XC_seq ?_
    | refine XT_seq ?_
    | refine XC_ret ?_
    | refine Y_res (r_move rfl) rfl ?_
    | refine Y_res (r_assign rfl) rfl ?_
    | (refine X_buildS (by rfl) (by rfl) (by simp) rfl ?_; intro _ _)
    | (refine X_appendI rfl rfl (fun w_ hM => (by first | exact Rds.old (by assumption) hM old_false | exact rds_sl (PkS.has inferInstance hM))) rfl rfl rfl (by first | omega | (simp only [List.length_nil]; omega)) (by first | omega | (simp only [List.length_nil]; omega)) rfl ?_; intro _ _; try simp only [List.nil_append])
    | (refine X_append rfl rfl (fun w_ hM => (by first | exact Rds.old (by assumption) hM old_false | exact rds_sl (PkS.has inferInstance hM))) rfl rfl rfl (by omega) (by omega) rfl ?_; intro _ _)
  exact XT_tells (.inl rfl) Try.results34 rfl rfl
set_option maxHeartbeats 1000000 in
theorem rneeds_any (n : Nat) (w : World) (hn : n ≤ 1000000) : Calls Try.prog 25 #[.int .i64 n] w (Says w (.int .i64 (needs n))) := by
  refine calls_of_X (vs := [_]) (M := Hp w (fun _ => False) []) Try.func25 rfl Try.ntmps25 rfl (Hp.nil _ _) ?_
  repeat first
    | refine XC_region ?_
    | refine X_nil ?_
    | refine XC_seq ?_
    | refine XT_seq ?_
    | refine XC_ret ?_
    | refine Y_res (r_move rfl) rfl ?_
    | refine Y_res (r_assign rfl) rfl ?_
    | refine Y_res (r_add64 rfl rfl (by omega)) rfl ?_
    | refine Y_res (r_quo rfl rfl (by omega)) rfl ?_
  exact XT_says (.inl rfl) Try.results25 rfl (congrArg (Value.int .i64) (by unfold needs; omega))
/-- A record's sectors. -/
def secsB (gen op nx : Nat) (b : List Int) : List (List Int) := (List.range (needs b.length)).map (secB gen op nx b)
theorem secsB_len (gen op nx : Nat) (b : List Int) : (secsB gen op nx b).length = needs b.length := by simp [secsB]
section
variable {g : Nat} {pa : Ad} {p : Pl} {w w0 : World} {TS : Nat → Prop} {es : List Ch}
theorem bag_addE {B A' : Option Addr} {cb c' n : Nat} {E : TypeId} {x : List Int} {js : List It} {S : Nat → Prop} (h : Hp w0 S (Ch.sl B cb E .u8 x :: Ch.sv A' c' 30 1 n (js.map It.val ++ [.slice B x.length cb]) :: Ch.bagN js :: es) w) :
    Hp w0 S (Ch.sv A' c' 30 1 n ((js ++ [itI .u8 B cb x]).map It.val) :: Ch.bagN (js ++ [itI .u8 B cb x]) :: es) w := by
  have h1 : Hp w0 S (Ch.sv B cb E 1 x.length (x.map (Value.int .u8)) :: Ch.bagN js :: Ch.sv A' c' 30 1 n (js.map It.val ++ [.slice B x.length cb]) :: es) w := h.of_perm (List.Perm.cons _ (List.Perm.swap _ _ _))
  have h2 := (h1.bagNV).bagNSub (jts := js ++ [itI .u8 B cb x]) (fun it hit => by
    rw [List.mem_append, List.mem_singleton] at hit
    rcases hit with hit | rfl
    · exact List.mem_cons_of_mem _ hit
    · exact List.mem_cons_self ..)
  rw [List.map_append]
  exact h2.of_perm (List.Perm.swap _ _ _)
set_option maxRecDepth 100000 in
set_option maxHeartbeats 4000000 in
theorem rsect_any (b : List Int) (B : Option Addr) (cB gen op nx : Nat) (w : World) (hr : Rds w B cB .u8 b) (hb : b.length ≤ 65536) (h1 : gen < 4294967296) (h2 : op < 4294967296) (h3 : nx < 4294967296) :
    Calls Try.prog 16 #[.slice B b.length cB, .int .i64 gen, .int .i64 op, .int .i64 nx] w fun e w' => ∃ A c js, e = .returned (.slice A (needs b.length) c) ∧ JOk .u8 js (secsB gen op nx b) ∧ Hp w (fun _ => False) [Ch.sv A c 30 1 (needs b.length) (js.map It.val), Ch.bagN js] w' := by
  have hle := hr.le
  have hcap := hr.cap
  have hnd := needs_bd b.length
  obtain ⟨n, hn⟩ : ∃ n, n = needs b.length := ⟨_, rfl⟩
  have hbl := bodyB_len b
  rw [← hn] at hnd hbl ⊢
  refine calls_of_X (vs := [_, _, _, _]) (M := Hp w (fun _ => False) []) Try.func16 rfl Try.ntmps16 rfl (Hp.nil _ _) ?_
  repeat first
    | refine XC_region ?_
    | refine X_nil ?_
    | refine XC_seq ?_
    | refine XT_seq ?_
    | refine Y_res (r_move rfl) rfl ?_
    | refine Y_res (r_assign rfl) rfl ?_
    | refine Y_res (r_len rfl) rfl ?_
    | refine Y_says (g := 25) rfl rfl (fun w1 hM => rneeds_any b.length w1 (by omega)) ?_
  rw [← hn]
  refine X_tells (g := 35) (E := 5) (k := .u8) (z := be b.length 4) rfl rfl (fun w1 hM => rbig_any b.length 4 w1 (by decide) (by omega)) ?_
  intro B1 c1 y1 hy1
  have hl1 : y1.length = 4 := by rw [hy1, be_len]
  repeat first
    | refine Y_res (r_move rfl) rfl ?_
  refine X_tells (g := 34) (E := 5) (k := .u8) (z := y1 ++ b) rfl rfl (fun w1 hM => rjoin_any y1 b _ _ _ _ w1 (rds_sl hM.head) (hr.old hM old_false) (by omega) (by omega)) ?_
  intro B2 c2 y2 hy2
  have hl2 : y2.length = 4 + b.length := by rw [hy2, List.length_append, hl1]
  repeat first
    | refine X_nil ?_
    | refine XC_seq ?_
    | refine XT_seq ?_
    | refine XC_block ?_
    | refine Y_res (r_assign rfl) rfl ?_
  refine XC_loop (ι := Nat × Option Addr × Nat × List Int) (fun j => j.1 ≤ 48 * n - (4 + b.length) ∧ j.2.2.2 = y2 ++ List.replicate j.1 0) (fun j => [(0, .slice B b.length cB), (1, .int .i64 gen), (2, .int .i64 op), (3, .int .i64 nx), (9, .int .i64 n), (10, .slice j.2.1 j.2.2.2.length j.2.2.1)]) (fun j => Hp w (fun _ => False) [Ch.sl j.2.1 j.2.2.1 5 .u8 j.2.2.2]) (fun j => 48 * n - (4 + b.length) - j.1) (0, B2, c2, y2) ⟨Nat.zero_le _, by simp⟩ ⟨rfl, rfl, rfl, rfl, rfl, rfl, trivial⟩ (fun _ h => h.hd) ?_
  rintro ⟨i, A3, c3, ys⟩ ⟨hi, hys⟩
  dsimp only at hi hys ⊢
  have hyl : ys.length = 4 + b.length + i := by rw [hys, List.length_append, hl2, List.length_replicate]
  repeat first
    | refine XC_region ?_
    | refine X_nil ?_
    | refine XC_seq ?_
    | refine XT_seq ?_
    | refine Y_res (r_move rfl) rfl ?_
    | refine Y_res (r_mul64 rfl rfl (by omega)) rfl ?_
    | refine Y_res (r_lss rfl rfl) rfl ?_
    | refine Y_res (r_len rfl) rfl ?_
  refine XC_condP rfl (fun hlt => ?_) (fun hge => ?_)
  · repeat first
      | refine XC_region ?_
      | refine X_nil ?_
      | refine XT_seq ?_
      | refine XC_block ?_
      | refine XT_block_normal ?_
      | refine XC_skip ?_
      | refine Y_res (r_move rfl) rfl ?_
      | refine Y_res (r_assign rfl) rfl ?_
      | (refine X_buildS (by rfl) (by rfl) (by simp) rfl ?_; intro _ _)
      | (refine X_append rfl rfl (fun w_ h_ => rds_ints (Hp.head h_) (by simp) (by decide)) (by rfl) (by rfl) (by rfl) (by first | omega | (simp only [List.length_cons, List.length_nil]; omega)) (by first | omega | (simp only [List.length_cons, List.length_nil]; omega)) rfl ?_; intro _ _)
    rename_i g5 hg5 A4 c4
    exact XT_round (i + 1, A4, c4, ys ++ [0]) ⟨by dsimp only; omega, by dsimp only; rw [hys, List.append_assoc, List.replicate_succ']⟩ (by dsimp only; omega) ⟨rfl, rfl, rfl, rfl, rfl, rfl, trivial⟩ (fun _ h => h.tail)
  obtain rfl : i = 48 * n - (4 + b.length) := by omega
  have hyb : ys = bodyB b := by rw [hys, hy2, hy1, bodyB, ← hn]
  subst hyb
  clear hys hyl hi hge
  rw [hbl]
  refine XC_open (ι := Unit) (fun _ => (bodyB b).length ≤ c3 ∧ c3 ≤ 9223372036854775807) (fun _ => Hp w (fun _ => False) [Ch.sl A3 c3 5 .u8 (bodyB b)]) (fun w1 h => ⟨(), sl_cap h.head, h.hd⟩) ?_
  rintro _ ⟨hc3, hc3m⟩
  repeat first
    | refine XC_region ?_
    | refine X_nil ?_
    | refine XC_seq ?_
    | refine XT_seq ?_
    | refine XC_block ?_
    | refine XT_block_same rfl ?_
    | refine XT_then_exit ?_
    | refine XC_exit ?_
    | refine Y_res (r_assign rfl) rfl ?_
  refine XC_loop (ι := Nat × Option Addr × Nat × List It) (fun j => j.1 ≤ n ∧ JOk .u8 j.2.2.2 ((List.range j.1).map (secB gen op nx b))) (fun j => [(1, .int .i64 gen), (2, .int .i64 op), (3, .int .i64 nx), (9, .int .i64 n), (10, .slice A3 ((48 * n : Nat)) c3), (11, .slice j.2.1 j.1 j.2.2.1), (12, .int .i64 j.1)])
    (fun j => Hp w (fun _ => False) (Ch.sv j.2.1 j.2.2.1 30 1 j.1 (j.2.2.2.map It.val) :: Ch.bagN j.2.2.2 :: Ch.sl A3 c3 5 .u8 (bodyB b) :: [])) (fun j => n - j.1) (0, none, 0, []) ⟨Nat.zero_le _, JOk.nil _⟩ ⟨rfl, rfl, rfl, rfl, rfl, rfl, rfl, trivial⟩ (fun _ h => (Hp.sublist h (.cons_cons _ (List.nil_sublist _))).bagN0.nilV _ _) ?_
  rintro ⟨i, A, c, js⟩ ⟨hi, hj⟩
  dsimp only at hi hj ⊢
  repeat first
    | refine XC_region ?_
    | refine X_nil ?_
    | refine XC_seq ?_
    | refine XT_seq ?_
    | refine Y_res (r_move rfl) rfl ?_
    | refine Y_res (r_lss rfl rfl) rfl ?_
  refine XC_condP rfl (fun hlt => ?_) (fun hge => ?_)
  · have hi2 : i < n := by omega
    have hpl : (partB b i).length = 48 := partB_len (by rw [← hn]; exact hi2)
    repeat first
      | refine XC_region ?_
      | refine XC_seq ?_
      | refine XT_seq ?_
      | refine XC_block ?_
      | refine XC_skip ?_
      | refine Y_res (r_move rfl) rfl ?_
    refine X_tells (g := 35) (E := 5) (k := .u8) (z := be gen 4) rfl rfl (fun w1 hM => rbig_any gen 4 w1 (by decide) (by omega)) ?_
    intro D1 d1 z1 hz1
    have hq1 : z1.length = 4 := by rw [hz1, be_len]
    repeat first
      | refine Y_res (r_move rfl) rfl ?_
    refine X_tells (g := 35) (E := 5) (k := .u8) (z := be op 4) rfl rfl (fun w1 hM => rbig_any op 4 w1 (by decide) (by omega)) ?_
    intro D2 d2 z2 hz2
    have hq2 : z2.length = 4 := by rw [hz2, be_len]
    skip
    refine X_tells (g := 34) (E := 5) (k := .u8) (z := z1 ++ z2) rfl rfl (fun w1 hM => rjoin_any z1 z2 _ _ _ _ w1 (rds_sl hM.tail.head) (rds_sl hM.head) (by omega) (by omega)) ?_
    intro D3 d3 z3 hz3
    have hq3 : z3.length = 8 := by rw [hz3, List.length_append, hq1, hq2]
    repeat first
      | refine XC_region ?_
      | refine X_nil ?_
      | refine XC_seq ?_
      | refine XT_seq ?_
      | refine Y_res (r_move rfl) rfl ?_
      | refine Y_res (r_assign rfl) rfl ?_
    refine X_tells (g := 35) (E := 5) (k := .u8) (z := be nx 4) rfl rfl (fun w1 hM => rbig_any nx 4 w1 (by decide) (by omega)) ?_
    intro D4 d4 z4 hz4
    have hq4 : z4.length = 4 := by rw [hz4, be_len]
    repeat first
      | refine XC_region ?_
      | refine X_nil ?_
      | refine XC_seq ?_
      | refine XT_seq ?_
      | refine Y_res (r_move rfl) rfl ?_
      | refine Y_res (r_assign rfl) rfl ?_
      | (refine X_append (ys := z4) rfl rfl (fun w_ hM => rds_sl hM.head) rfl rfl rfl (by omega) (by omega) rfl ?_; intro _ _)
    rename_i D5 d5
    have hq5 : (z3 ++ z4).length = 12 := by rw [List.length_append, hq3, hq4]
    refine X_tells (g := 35) (E := 5) (k := .u8) (z := be i 2) rfl rfl (fun w1 hM => rbig_any i 2 w1 (by decide) (by omega)) ?_
    intro D6 d6 z6 hz6
    have hq6 : z6.length = 2 := by rw [hz6, be_len]
    repeat first
      | refine XC_region ?_
      | refine X_nil ?_
      | refine XC_seq ?_
      | refine XT_seq ?_
      | refine Y_res (r_move rfl) rfl ?_
      | refine Y_res (r_assign rfl) rfl ?_
      | refine Y_res (r_sub64 rfl rfl (by omega)) rfl ?_
      | (refine X_append (ys := z6) rfl rfl (fun w_ hM => rds_sl hM.head) rfl rfl rfl (by omega) (by omega) rfl ?_; intro _ _)
    rename_i D7 d7
    have hq7 : (z3 ++ z4 ++ z6).length = 14 := by rw [List.length_append, hq5, hq6]
    refine Y_re (e := 50) (v' := .int .i64 ((n - 1 : Nat) : Int)) rfl (by congr 1; omega) ?_
    refine X_tells (g := 35) (E := 5) (k := .u8) (z := be (n - 1) 2) rfl rfl (fun w1 hM => rbig_any (n - 1) 2 w1 (by decide) (by omega)) ?_
    intro D8 d8 z8 hz8
    have hq8 : z8.length = 2 := by rw [hz8, be_len]
    have hpt : ((bodyB b).take (48 * i + 48)).drop (48 * i) = partB b i := by unfold partB; rw [show (i + 1) * 48 = 48 * i + 48 by omega, show i * 48 = 48 * i by omega]
    have hpl2 : (((bodyB b).take (48 * i + 48)).drop (48 * i)).length = 48 := by rw [hpt, hpl]
    repeat first
      | refine XC_region ?_
      | refine X_nil ?_
      | refine XT_seq ?_
      | refine Y_res (r_move rfl) rfl ?_
      | refine Y_res (r_assign rfl) rfl ?_
      | refine Y_res (r_add64 rfl rfl (by omega)) rfl ?_
      | refine Y_res (r_mul64 rfl rfl (by omega)) rfl ?_
      | refine Y_res (r_cutLH rfl rfl rfl (by omega) (by omega)) rfl ?_
      | (refine X_append (ys := z8) rfl rfl (fun w_ hM => rds_sl hM.head) rfl rfl rfl (by omega) (by omega) rfl ?_; intro _ _)
    rename_i D9 d9
    have hq9 : (z3 ++ z4 ++ z6 ++ z8).length = 16 := by rw [List.length_append, hq7, hq8]
    refine X_append (ys := ((bodyB b).take (48 * i + 48)).drop (48 * i)) rfl rfl (fun w_ hM => (rds_sl hM.tail.tail.tail.tail.tail.tail.tail.tail.head).cut (48 * i) (48 * i + 48) (by omega) (by omega)) rfl rfl (by rw [hpl2]; omega) (by rw [hq9, hpl2]; decide) (by rw [hq9, hpl2]; decide) rfl ?_
    intro E1 f1
    have hsi : z3 ++ z4 ++ z6 ++ z8 ++ ((bodyB b).take (48 * i + 48)).drop (48 * i) = secB gen op nx b i := by rw [hz3, hz1, hz2, hz4, hz6, hz8, hpt, secB, secN, ← hn]
    rw [hsi]
    have hjl := hj.ln
    repeat first
      | refine XC_region ?_
      | refine X_nil ?_
      | refine XT_seq ?_
      | refine XT_block_normal ?_
      | refine Y_res (r_move rfl) rfl ?_
      | refine Y_res (r_assign rfl) rfl ?_
      | refine Y_res (r_add64 rfl rfl (by omega)) rfl ?_
      | (refine X_buildV rfl rfl (fun u hu => by simp at hu; rw [hu]; rfl) rfl (by simp) rfl ?_; intro _ _)
      | (refine X_appendV (s := 1) rfl rfl (fun w_ hM => rdv_blk (r := []) hM.head (List.append_nil _).symm rfl (Nat.le_refl 1) (by decide)) (fun u hu => by simp at hu; rw [hu]; rfl) rfl (by decide) rfl rfl (by omega) (by omega) rfl ?_; intro _ _)
    rename_i gb hgb A4 c4
    refine XT_round (i + 1, A4, c4, js ++ [itI .u8 E1 f1 (secB gen op nx b i)]) ⟨by dsimp only; omega, ?_⟩ (by dsimp only; omega) ⟨rfl, rfl, rfl, rfl, rfl, rfl, rfl, trivial⟩ (fun w1 h => bag_addE (Hp.sublist h (.cons _ (.cons _ (.cons _ (.cons _ (.cons_cons _ (.cons _ (.cons _ (.cons_cons _ (.cons_cons _ (.cons_cons _ (List.nil_sublist _)))))))))))))
    dsimp only
    rw [List.range_succ, List.map_append]
    exact hj.snoc E1 f1 _
  · obtain rfl : i = n := by omega
    repeat first
      | refine XC_region ?_
      | refine X_nil ?_
      | refine XC_seq ?_
      | refine XT_seq ?_
      | refine XT_block_same rfl ?_
      | refine XT_then_exit ?_
      | refine XC_exit ?_
      | refine XC_ret ?_
      | refine Y_res (r_move rfl) rfl ?_
      | refine Y_res (r_assign rfl) rfl ?_
    exact XT_ret1 (.inl rfl) Try.results16 rfl (fun w' h => ⟨A, c, js, rfl, by unfold secsB; rw [← hn]; exact hj, Hp.sublist h (.cons_cons _ (.cons_cons _ (List.nil_sublist _)))⟩)
theorem plr_in {x y : Ch} (h : Hp w0 TS (x :: y :: PlC g pa p es) w) : Hp w0 TS (PlC g pa p (x :: y :: es)) w := h.of_perm (List.perm_append_comm_assoc [x, y] (PlC g pa p []) es)
theorem plr_out {z x y : Ch} (h : Hp w0 TS (z :: PlC g pa p (x :: y :: es)) w) : Hp w0 TS (z :: x :: y :: PlC g pa p es) w := h.of_perm (List.Perm.cons _ (List.perm_append_comm_assoc (PlC g pa p []) [x, y] es))
set_option maxRecDepth 100000 in
set_option maxHeartbeats 4000000 in
theorem lsect_any (from_ m : Nat) (hT : Hp w0 TS (PlC g pa p es) w) (hp : PlOk p) (hd : p.down = false) (hm : from_ + m ≤ p.n) :
    Calls Try.prog 17 #[.pointer (some ⟨g, 0, none⟩), .int .i64 from_, .int .i64 ((from_ + m : Nat) : Int)] w fun e w' => ∃ A c js, e = .returned (.slice A m c) ∧ JOk .u8 js ((List.range m).map fun i => nowAt p (from_ + i)) ∧ Hp w0 TS (Ch.sv A c 30 1 m (js.map It.val) :: Ch.bagN js :: PlC g pa p es) w' := by
  have hnl := hp.nl
  have hn := hp.hi
  refine calls_of_X (vs := [_, _, _]) (M := Hp w0 TS (PlC g pa p es)) Try.func17 rfl Try.ntmps17 rfl hT ?_
  clear hT
  repeat first
    | refine XC_region ?_
    | refine X_nil ?_
    | refine XC_seq ?_
    | refine XT_seq ?_
    | refine XC_block ?_
    | refine Y_res (r_move rfl) rfl ?_
    | refine Y_res (r_assign rfl) rfl ?_
  refine XC_loop (ι := Nat × Option Addr × Nat × List It) (fun j => j.1 ≤ m ∧ JOk .u8 j.2.2.2 ((List.range j.1).map fun i => nowAt p (from_ + i))) (fun j => [(0, .pointer (some ⟨g, 0, none⟩)), (2, .int .i64 ((from_ + m : Nat) : Int)), (7, .slice j.2.1 j.1 j.2.2.1), (8, .int .i64 ((from_ + j.1 : Nat) : Int))])
    (fun j => Hp w0 TS (Ch.sv j.2.1 j.2.2.1 30 1 j.1 (j.2.2.2.map It.val) :: Ch.bagN j.2.2.2 :: PlC g pa p es)) (fun j => m - j.1) (0, none, 0, []) ⟨Nat.zero_le _, JOk.nil _⟩ ⟨rfl, rfl, rfl, rfl, trivial⟩ (fun _ h => h.bagN0.nilV _ _) ?_
  rintro ⟨i, A, c, js⟩ ⟨hi, hj⟩
  dsimp only at hi hj ⊢
  repeat first
    | refine XC_region ?_
    | refine X_nil ?_
    | refine XC_seq ?_
    | refine XT_seq ?_
    | refine Y_res (r_move rfl) rfl ?_
    | refine Y_res (r_lss rfl rfl) rfl ?_
  refine XC_condP rfl (fun hlt => ?_) (fun hge => ?_)
  · have hi2 : i < m := by omega
    obtain ⟨s, hs⟩ : ∃ s, p.now[from_ + i]? = some s := ⟨p.now[from_ + i]'(by omega), List.getElem?_eq_getElem (by omega)⟩
    have hsl : s.length = 64 := hp.ns s (List.mem_of_getElem? hs)
    have hsn : nowAt p (from_ + i) = s := by rw [nowAt, List.getD_eq_getElem?_getD, hs]; rfl
    have hjl := hj.ln
    repeat first
      | refine XC_region ?_
      | refine XC_seq ?_
      | refine XT_seq ?_
      | refine XC_block ?_
      | refine XC_skip ?_
      | refine Y_res (r_move rfl) rfl ?_
    refine X_call (g := 36) rfl rfl (fun w1 q1 => (read_es (from_ + i) s hp hd hs (plr_in q1)).mono ?_)
    rintro e w2 ⟨b, rfl, q2⟩
    refine ⟨_, rfl, _, plr_out q2, ?_⟩
    clear q1 q2
    repeat first
      | refine XC_region ?_
      | refine X_nil ?_
      | refine XC_condF rfl ?_
      | refine XC_seq ?_
      | refine XT_seq ?_
      | refine XT_block_normal ?_
      | refine XC_skip ?_
      | refine Y_res (r_move rfl) rfl ?_
      | refine Y_res (r_assign rfl) rfl ?_
      | refine Y_res (r_add64 rfl rfl (by omega)) rfl ?_
      | refine Y_res (r_neq rfl rfl) rfl ?_
      | refine Y_res (r_extract rfl rfl) rfl ?_
      | (refine X_buildV rfl rfl (fun u hu => by simp at hu; rw [hu]; rfl) rfl (by simp) rfl ?_; intro _ _)
      | (refine X_appendV (s := 1) rfl rfl (fun w_ hM => rdv_blk (r := []) hM.head (List.append_nil _).symm rfl (Nat.le_refl 1) (by decide)) (fun u hu => by simp at hu; rw [hu]; rfl) rfl (by decide) rfl rfl (by omega) (by omega) rfl ?_; intro _ _)
    rename_i gb hgb A4 c4
    have e64 : Value.slice (some ⟨b, 0, none⟩) 64 64 = .slice (some ⟨b, 0, none⟩) s.length s.length := by rw [hsl]
    refine XT_round (i + 1, A4, c4, js ++ [itI .u8 (some ⟨b, 0, none⟩) s.length s]) ⟨by dsimp only; omega, ?_⟩ (by dsimp only; omega) ⟨rfl, rfl, rfl, rfl, trivial⟩ (fun w1 h => ?_)
    · dsimp only
      rw [List.range_succ, List.map_append, List.map_singleton, hsn]
      exact hj.snoc _ _ _
    · have h1 := h.tail
      rw [e64] at h1
      exact bag_addE (h1.conv (sl_ints h1.head (by omega)) (fun k hk => by
        obtain rfl := Option.some.inj hk
        rfl))
  · obtain rfl : i = m := by omega
    repeat first
      | refine XC_region ?_
      | refine X_nil ?_
      | refine XC_seq ?_
      | refine XT_seq ?_
      | refine XT_block_same rfl ?_
      | refine XT_then_exit ?_
      | refine XC_exit ?_
      | refine XC_ret ?_
      | refine Y_res (r_move rfl) rfl ?_
      | refine Y_res (r_assign rfl) rfl ?_
    exact XT_ret1 (.inl rfl) Try.results17 rfl (fun w' h => ⟨A, c, js, rfl, hj, h⟩)
end
end Go.Proofs.Ytgfpibojgkleiaa.NWl
