/- A tree over leaves; whether lists of bytes are alike; a tree's size: walked. -/
import Derived.Test.YtgnhpkdhicfeiaaDoorNMk4
import Derived.Test.YtgnhpkdhicfeiaaDoorNSame
namespace Go.Proofs.YtgnhpkdhicfeiaaDoor.NMk
open Go Go.RowKit Go.Proofs.YtgnhpkdhicfeiaaDoor.MX Go.Proofs.YtgnhpkdhicfeiaaDoor.PSha Go.Proofs.YtgnhpkdhicfeiaaDoor.NSha Go.Proofs.YtgnhpkdhicfeiaaDoor.PMerkle
set_option linter.unusedVariables false
set_option linter.unusedSimpArgs false
set_option linter.unusedVariables false
set_option maxHeartbeats 1000000 in
theorem size_any (l : List (List Int)) (g : Nat) (w : World) (hT : TreeAt w g l) (hl : l.length ≤ 10000) : Calls Tryd.prog 18 #[.pointer (some ⟨g, 0, none⟩)] w (Says w (.int .i64 l.length)) := by
  obtain ⟨A0, R0, c0, t1, t2, t3, t4, t5, t6, t7⟩ := hT
  obtain ⟨Az, cz, k1, k2⟩ := t7 0 (by omega)
  have hA0 := t4 (by omega)
  have h0R : 0 < R0 := by omega
  rw [Nat.pow_zero, Nat.div_one] at k1
  refine calls_of_X (vs := [_]) (M := Hp w (fun _ => False) []) Tryd.func18 rfl Tryd.ntmps18 rfl (Hp.nil _ _) ?_
  repeat first
    | refine XC_region ?_
    | refine X_nil ?_
    | refine XC_seq ?_
    | refine XT_seq ?_
    | refine XC_ret ?_
    | refine Y_res (r_move rfl) rfl ?_
    | refine Y_res (r_assign rfl) rfl ?_
    | refine Y_res (r_len rfl) rfl ?_
    | refine Y_res (r_field' rfl) rfl ?_
    | refine Y_res (r_nilCheck rfl) rfl ?_
    | refine Y_res (r_loadO rfl t1 (fun h => h)) rfl ?_
    | refine Y_res (r_indexO rfl rfl h0R hA0) rfl ?_
    | refine Y_res (r_loadO rfl k1 (fun h => h)) rfl ?_
  exact XT_says (.inl rfl) Tryd.results18 rfl rfl
theorem flat_step {L : List (List Int)} {i : Nat} {l : List Int} (hl : L[i]? = some l) : ((L.take (i + 1)).flatten).length = ((L.take i).flatten).length + l.length := by
  obtain ⟨h1, h2⟩ := List.getElem?_eq_some_iff.1 hl
  rw [List.take_succ_eq_append_getElem h1, h2, List.flatten_append, List.flatten_singleton, List.length_append]
theorem flat_le (L : List (List Int)) (i : Nat) : ((L.take i).flatten).length ≤ L.flatten.length := by
  have := congrArg (fun l => (List.flatten l).length) (List.take_append_drop i L)
  simp only [List.flatten_append, List.length_append] at this
  omega
/-- So few leaves, and of so few bytes, that a play goes through with them. -/
def fewS (L : List (List Int)) : Prop := L.length ≤ 100 ∧ L.flatten.length ≤ 10000
instance (L : List (List Int)) : Decidable (fewS L) := by unfold fewS; infer_instance
set_option maxHeartbeats 2000000 in
theorem few_any (L : List (List Int)) (A : Option Addr) (c : Nat) (w : World) (h : LLs .u8 w A c L) (hlen : ∀ l ∈ L, l.length ≤ 140737488355327) : Calls Tryd.prog 10 #[.slice A L.length c] w (Says w (.bool (decide (fewS L)))) := by
  have hle := h.le
  have hcap := h.cap
  refine calls_of_X (vs := [_]) (M := Hp w (fun _ => False) []) Tryd.func10 rfl Tryd.ntmps10 rfl (Hp.nil _ _) ?_
  repeat first
    | refine XC_region ?_
    | refine X_nil ?_
    | refine XC_seq ?_
    | refine XT_seq ?_
    | refine Y_res (r_move rfl) rfl ?_
    | refine Y_res (r_assign rfl) rfl ?_
    | refine Y_res (r_gtr rfl rfl) rfl ?_
    | refine Y_res (r_len rfl) rfl ?_
  refine XC_condP rfl (fun h1 => ?_) (fun h1 => ?_)
  · repeat first
      | refine XC_region ?_
      | refine X_nil ?_
      | refine XC_seq ?_
      | refine XT_seq ?_
      | refine XT_then_ret ?_
      | refine XC_ret ?_
      | refine Y_res (r_assign rfl) rfl ?_
    exact XT_says (.inl rfl) Tryd.results10 rfl (by rw [decide_eq_false (fun q => by have := q.1; omega)])
  repeat first
    | refine XC_region ?_
    | refine X_nil ?_
    | refine XC_seq ?_
    | refine XT_seq ?_
    | refine XC_block ?_
    | refine XC_skip ?_
    | refine Y_res (r_move rfl) rfl ?_
    | refine Y_res (r_assign rfl) rfl ?_
    | refine Y_res (r_len rfl) rfl ?_
  refine XC_loop (ι := Nat) (fun i => i ≤ L.length ∧ (L.take i).flatten.length ≤ 10000) (fun i => [(3, .int .i64 (L.take i).flatten.length), (9, .slice A L.length c), (10, .int .i64 L.length), (11, .int .i64 i)]) (fun i => Hp w (fun _ => False) []) (fun i => L.length - i) 0 ⟨Nat.zero_le _, by simp⟩ ⟨rfl, rfl, rfl, rfl, trivial⟩ (fun _ h => h) ?_
  rintro i ⟨hi, hs⟩
  repeat first
    | refine XC_region ?_
    | refine X_nil ?_
    | refine XC_seq ?_
    | refine XT_seq ?_
    | refine Y_res (r_lss rfl rfl) rfl ?_
  refine XC_condP rfl (fun hlt => ?_) (fun hge => ?_)
  · have hi2 : i < L.length := by omega
    have hA := h.some (by omega)
    obtain ⟨l, hl⟩ : ∃ l, L[i]? = some l := ⟨L[i], List.getElem?_eq_getElem hi2⟩
    obtain ⟨B, d, hcell, hrd⟩ := h.at_ i l hl
    have hst := flat_step hl
    have hle2 := hrd.le
    have hcap2 := hrd.cap
    have hfl := flat_le L (i + 1)
    have hlb := hlen l (List.mem_of_getElem? hl)
    repeat first
      | refine XC_region ?_
      | refine X_nil ?_
      | refine XC_seq ?_
      | refine XT_seq ?_
      | refine XC_block ?_
      | refine XC_skip ?_
      | refine Y_res (r_move rfl) rfl ?_
      | refine Y_res (r_assign rfl) rfl ?_
      | refine Y_res (r_add64 rfl rfl (by omega)) rfl ?_
      | refine Y_res (r_gtr rfl rfl) rfl ?_
      | refine Y_res (r_len rfl) rfl ?_
      | refine Y_res (r_indexO rfl rfl hi2 hA) rfl ?_
      | refine Y_res (r_loadO rfl hcell (fun h => h)) rfl ?_
    refine XC_condP rfl (fun h2 => ?_) (fun h2 => ?_)
    · repeat first
        | refine XC_region ?_
        | refine X_nil ?_
        | refine XC_seq ?_
        | refine XT_seq ?_
        | refine XT_block_ret ?_
        | refine XT_then_ret ?_
        | refine XC_ret ?_
        | refine Y_res (r_assign rfl) rfl ?_
      exact XT_says (.inl rfl) Tryd.results10 rfl (by rw [decide_eq_false (fun q => by have := q.2; omega)])
    · repeat first
        | refine XC_region ?_
        | refine X_nil ?_
        | refine XT_seq ?_
        | refine XT_block_normal ?_
        | refine XC_skip ?_
        | refine Y_res (r_move rfl) rfl ?_
        | refine Y_res (r_add64 rfl rfl (by omega)) rfl ?_
      refine XT_re (e := 3) (v' := .int .i64 (L.take (i + 1)).flatten.length) rfl (by rw [hst]; rfl) ?_
      exact XT_round (i + 1) ⟨hi2, by omega⟩ (by omega) ⟨rfl, rfl, rfl, rfl, trivial⟩ (fun _ h => h)
  · have hge : i = L.length := by omega
    subst hge
    rw [List.take_length] at hs
    repeat first
      | refine XC_region ?_
      | refine X_nil ?_
      | refine XC_seq ?_
      | refine XT_seq ?_
      | refine XT_block_same rfl ?_
      | refine XT_then_exit ?_
      | refine XC_exit ?_
      | refine XC_ret ?_
      | refine Y_res (r_assign rfl) rfl ?_
    exact XT_says (.inl rfl) Tryd.results10 rfl (by rw [decide_eq_true ⟨by omega, hs⟩])
set_option maxRecDepth 100000 in
set_option maxHeartbeats 2000000 in
theorem samell_any (La Lb : List (List Int)) (A B : Option Addr) (ca cb : Nat) (w : World) (ha : LLs .u8 w A ca La) (hb : LLs .u8 w B cb Lb) :
    Calls Tryd.prog 13 #[.slice A La.length ca, .slice B Lb.length cb] w (Says w (.bool (decide (La = Lb)))) := by
  have hal := ha.le
  have hbl := hb.le
  have hac := ha.cap
  have hbc := hb.cap
  refine calls_of_X (vs := [_, _]) (M := Hp w (fun _ => False) []) Tryd.func13 rfl Tryd.ntmps13 rfl (Hp.nil _ _) ?_
  repeat first
    | refine XC_region ?_
    | refine X_nil ?_
    | refine XC_seq ?_
    | refine XT_seq ?_
    | refine Y_res (r_move rfl) rfl ?_
    | refine Y_res (r_assign rfl) rfl ?_
    | refine Y_res (r_neq rfl rfl) rfl ?_
    | refine Y_res (r_len rfl) rfl ?_
  refine XC_condP rfl (fun h1 => ?_) (fun h1 => ?_)
  · have hne : ¬ La = Lb := fun e => h1 (by rw [e])
    repeat first
      | refine XC_region ?_
      | refine X_nil ?_
      | refine XC_seq ?_
      | refine XT_seq ?_
      | refine XT_then_ret ?_
      | refine XC_ret ?_
      | refine Y_res (r_assign rfl) rfl ?_
    exact XT_says (.inl rfl) Tryd.results13 rfl (by rw [decide_eq_false hne])
  have hll : La.length = Lb.length := by omega
  repeat first
    | refine XC_region ?_
    | refine X_nil ?_
    | refine XC_seq ?_
    | refine XT_seq ?_
    | refine XC_block ?_
    | refine XC_skip ?_
    | refine Y_res (r_move rfl) rfl ?_
    | refine Y_res (r_len rfl) rfl ?_
  refine XC_loop (ι := Nat) (fun i => i ≤ La.length ∧ La.take i = Lb.take i) (fun i => [(1, .slice B Lb.length cb), (12, .slice A La.length ca), (13, .int .i64 La.length), (14, .int .i64 i)])
    (fun i => Hp w (fun _ => False) []) (fun i => La.length - i) 0 ⟨Nat.zero_le _, by simp⟩ ⟨rfl, rfl, rfl, rfl, trivial⟩ (fun _ h => h) ?_
  rintro i ⟨hi, htk⟩
  repeat first
    | refine XC_region ?_
    | refine X_nil ?_
    | refine XC_seq ?_
    | refine XT_seq ?_
    | refine Y_res (r_lss rfl rfl) rfl ?_
  refine XC_condP rfl (fun hlt => ?_) (fun hge => ?_)
  · have hi2 : i < La.length := by omega
    have hi3 : i < Lb.length := by omega
    have hA := ha.some (by omega)
    have hB := hb.some (by omega)
    obtain ⟨la, hla⟩ : ∃ l, La[i]? = some l := ⟨La[i], List.getElem?_eq_getElem hi2⟩
    obtain ⟨lb, hlb⟩ : ∃ l, Lb[i]? = some l := ⟨Lb[i], List.getElem?_eq_getElem hi3⟩
    obtain ⟨A1, d1, hc1, hr1⟩ := ha.at_ i la hla
    obtain ⟨B1, e1, hc2, hr2⟩ := hb.at_ i lb hlb
    repeat first
      | refine XC_region ?_
      | refine X_nil ?_
      | refine XC_seq ?_
      | refine XT_seq ?_
      | refine XC_block ?_
      | refine XC_skip ?_
      | refine Y_res (r_move rfl) rfl ?_
      | refine Y_res (r_assign rfl) rfl ?_
      | refine Y_res (r_notB rfl) rfl ?_
      | refine Y_res (r_indexO rfl rfl hi2 hA) rfl ?_
      | refine Y_res (r_indexO rfl rfl hi3 hB) rfl ?_
      | refine Y_res (r_loadO rfl hc1 (fun h => h)) rfl ?_
      | refine Y_res (r_loadO rfl hc2 (fun h => h)) rfl ?_
      | refine Y_says (g := 19) rfl rfl (fun w1 hM => NSame.same_any la lb _ _ _ _ w1 (hr1.old hM old_false) (hr2.old hM old_false)) ?_
    rcases Classical.em (la = lb) with hxy | hxy
    · subst hxy
      refine XC_re (e := 25) (v' := .bool false) rfl (by simp) ?_
      repeat first
        | refine XC_region ?_
        | refine X_nil ?_
        | refine XC_condF rfl ?_
        | refine XT_seq ?_
        | refine XT_block_normal ?_
        | refine XC_skip ?_
        | refine Y_res (r_move rfl) rfl ?_
        | refine Y_res (r_add64 rfl rfl (by omega)) rfl ?_
      refine XT_round (i + 1) ⟨hi2, ?_⟩ (by omega) ⟨rfl, rfl, rfl, rfl, trivial⟩ (fun _ h => h)
      have h1 := List.getElem?_eq_some_iff.1 hla
      have h2 := List.getElem?_eq_some_iff.1 hlb
      obtain ⟨l1, e1⟩ := h1
      obtain ⟨l2, e2⟩ := h2
      rw [List.take_succ_eq_append_getElem l1, List.take_succ_eq_append_getElem l2, htk, e1, e2]
    · have hne : ¬ La = Lb := fun e => by
        rw [e, hlb] at hla
        exact hxy (Option.some.inj hla).symm
      refine XC_re (e := 25) (v' := .bool true) rfl (by simp [hxy]) ?_
      repeat first
        | refine XC_region ?_
        | refine X_nil ?_
        | refine XC_condT rfl ?_
        | refine XC_seq ?_
        | refine XT_seq ?_
        | refine XT_block_ret ?_
        | refine XT_then_ret ?_
        | refine XC_ret ?_
        | refine Y_res (r_assign rfl) rfl ?_
      exact XT_says (.inl rfl) Tryd.results13 rfl (by rw [decide_eq_false hne])
  · have hge : i = La.length := by omega
    subst hge
    have hab : La = Lb := by rw [List.take_length, hll, List.take_length] at htk; exact htk
    repeat first
      | refine XC_region ?_
      | refine X_nil ?_
      | refine XC_seq ?_
      | refine XT_seq ?_
      | refine XT_block_same rfl ?_
      | refine XT_then_exit ?_
      | refine XC_exit ?_
      | refine XC_ret ?_
      | refine Y_res (r_assign rfl) rfl ?_
    exact XT_says (.inl rfl) Tryd.results13 rfl (by rw [decide_eq_true hab])
theorem own_new {w w' : World} {cs : List Ch} (h : Hp w (fun _ => False) cs w') {k : Nat} (hk : ∃ c ∈ cs, c.fp k) : w.heap.size ≤ k := by
  obtain ⟨c, hc, hck⟩ := hk
  exact (h.own c hc k hck).resolve_left (fun h => h)
set_option maxRecDepth 100000 in
set_option maxHeartbeats 4000000 in
/-- A tree over leaves, and their hashes. -/
theorem tree_any (Ls : List (List Int)) (A : Option Addr) (c : Nat) (w : World) (h : LLs .u8 w A c Ls) (hn : Ls.length ≤ 150) (hd : ∀ d ∈ Ls, d.length ≤ 100000) (hK : KAt KS w) :
    Calls Tryd.prog 11 #[.slice A Ls.length c] w fun e w' => ∃ g A0 c0 rows its Al cl js, e = .returned (.tuple #[.pointer (some ⟨g, 0, none⟩), .slice Al Ls.length cl]) ∧ TrOk (Ls.map leafS) rows its ∧ JOk .u8 js (Ls.map leafS) ∧
      Hp w (fun _ => False) (Ch.sv Al cl 34 1 Ls.length (js.map It.val) :: Ch.bagN js :: TrC g A0 c0 rows its) w' := by
  have hle := h.le
  have hcap := h.cap
  have hw0 := hK.pos
  refine calls_of_X (vs := [_]) (M := Hp w (fun _ => False) []) Tryd.func11 rfl Tryd.ntmps11 rfl (Hp.nil _ _) ?_
  repeat first
    | refine XC_region ?_
    | refine X_nil ?_
    | refine XC_seq ?_
    | refine XT_seq ?_
    | refine Y_res (r_assign rfl) rfl ?_
  refine X_call (g := 25) rfl rfl (fun w1 q1 => (new_any w1).mono ?_)
  rintro e w2 ⟨g, A0, c0, rows, rfl, ht, q2⟩
  refine ⟨_, rfl, _, (q1.frame0 q2), ?_⟩
  clear q1 q2
  rw [List.append_nil]
  repeat first
    | refine XC_region ?_
    | refine X_nil ?_
    | refine XC_seq ?_
    | refine XT_seq ?_
    | refine XC_block ?_
    | refine Y_res (r_move rfl) rfl ?_
    | refine Y_res (r_assign rfl) rfl ?_
    | refine Y_res (r_len rfl) rfl ?_
  refine XC_mem (M' := Hp w (fun _ => False) (Ch.sv none 0 34 1 0 [] :: Ch.bagN [] :: TrC g A0 c0 rows [])) (fun _ h => h.bagN0.nilV _ _) ?_
  have hK := Lib.hid hK
  refine XC_loop (ι := Nat × (Option Addr × Nat × List It × List It) × (Option Addr × Nat × List It)) (fun s => s.1 ≤ Ls.length ∧ TrOk ((Ls.take s.1).map leafS) s.2.1.2.2.1 s.2.1.2.2.2 ∧ JOk .u8 s.2.2.2.2 ((Ls.take s.1).map leafS))
    (fun s => [(4, .pointer (some ⟨g, 0, none⟩)), (5, .slice s.2.2.1 s.1 s.2.2.2.1), (9, .slice A Ls.length c), (10, .int .i64 Ls.length), (11, .int .i64 s.1)])
    (fun s => Hp w (fun _ => False) (Ch.sv s.2.2.1 s.2.2.2.1 34 1 s.1 (s.2.2.2.2.map It.val) :: Ch.bagN s.2.2.2.2 :: TrC g s.2.1.1 s.2.1.2.1 s.2.1.2.2.1 s.2.1.2.2.2)) (fun s => Ls.length - s.1)
    (0, (A0, c0, rows, []), none, 0, []) ⟨Nat.zero_le _, ht, JOk.nil _⟩ ⟨rfl, rfl, rfl, rfl, rfl, trivial⟩ (fun _ h => h) ?_
  clear ht
  rintro ⟨i, ⟨A0, c0, rows, its⟩, Al, cl, js⟩ ⟨hi, ht, hj⟩
  dsimp only at hi ht hj ⊢
  repeat first
    | refine XC_region ?_
    | refine X_nil ?_
    | refine XC_seq ?_
    | refine XT_seq ?_
    | refine Y_res (r_lss rfl rfl) rfl ?_
  refine XC_condP rfl (fun hlt => ?_) (fun hge => ?_)
  · have hi2 : i < Ls.length := by omega
    have hA := h.some (by omega)
    obtain ⟨d, hld⟩ : ∃ d, Ls[i]? = some d := ⟨Ls[i], List.getElem?_eq_getElem hi2⟩
    obtain ⟨B, b, hcell, hrd⟩ := h.at_ i d hld
    have hdl := hd d (List.mem_of_getElem? hld)
    have htk : Ls.take (i + 1) = Ls.take i ++ [d] := by
      obtain ⟨l1, e1⟩ := List.getElem?_eq_some_iff.1 hld
      rw [List.take_succ_eq_append_getElem l1, e1]
    have hmap : (Ls.take (i + 1)).map leafS = (Ls.take i).map leafS ++ [leafS d] := by rw [htk, List.map_append]; rfl
    have hml : ((Ls.take i).map leafS).length = i := by rw [List.length_map, List.length_take]; omega
    have hjl := hj.ln
    rw [hml] at hjl
    repeat first
      | refine XC_region ?_
      | refine X_nil ?_
      | refine XC_condT rfl ?_
      | refine XC_seq ?_
      | refine XT_seq ?_
      | refine XC_block ?_
      | refine XC_skip ?_
      | refine Y_res (r_move rfl) rfl ?_
      | refine Y_res (r_assign rfl) rfl ?_
      | refine Y_res (r_neqNil rfl rfl) rfl ?_
      | refine Y_res (r_indexO rfl rfl hi2 hA) rfl ?_
      | refine Y_res (r_loadO rfl hcell (fun h => h)) rfl ?_
    refine X_call (g := 21) rfl rfl (fun w1 q1 => ?_)
    have q2 : Hp w (fun _ => False) (TrC g A0 c0 rows its ++ [Ch.sv Al cl 34 1 i (js.map It.val), Ch.bagN js]) w1 := q1.of_perm (List.perm_append_comm (l₁ := [_, _]))
    have q3 := q2.less
    refine (add_any ((Ls.take i).map leafS) d g c0 A0 rows its _ B b w1 q3.base ht (hrd.old q1 old_false) hdl (fun hne ad ha hk => ?_) (by omega) (fun x hx => ?_) (hK.out.keep q1.chg (fun h => h)) (fun hk => ?_)).mono ?_
    · have := own_new q3 hk
      have := MX.rds_lt hrd hne ha
      omega
    · obtain ⟨y, _, rfl⟩ := List.mem_map.1 hx
      rfl
    · have := own_new q3 hk
      omega
    rintro e w2 ⟨rfl, A0', c0', rows', its', ht', q4⟩
    have q5 := q2.frameL q4
    refine ⟨_, rfl, Hp w (fun _ => False) (Ch.sv Al cl 34 1 i (js.map It.val) :: Ch.bagN js :: TrC g A0' c0' rows' its'), q5.of_perm (List.perm_append_comm (l₂ := [_, _])), ?_⟩
    clear q1 q2 q3 q4 q5
    rw [← hmap] at ht'
    repeat first
      | refine XC_region ?_
      | refine X_nil ?_
      | refine XT_seq ?_
      | refine Y_res (r_move rfl) rfl ?_
    refine X_tells (g := 26) (E := 5) (k := .u8) (z := leafS d) rfl rfl (fun w1 hM => rleaf_any d B b w1 (hrd.old hM old_false) hdl) ?_
    intro A3 c3 x3 h3
    repeat first
      | refine XC_region ?_
      | refine X_nil ?_
      | refine XT_seq ?_
      | refine XT_block_normal ?_
      | refine Y_res (r_move rfl) rfl ?_
      | refine Y_res (r_assign rfl) rfl ?_
      | refine Y_res (r_add64 rfl rfl (by omega)) rfl ?_
      | (refine X_buildV rfl rfl (fun u hu => by simp at hu; rw [hu]; rfl) rfl (by simp) rfl ?_; intro _ _)
      | (refine X_appendV (s := 1) rfl rfl (fun w_ hM => rdv_blk (r := []) hM.head (List.append_nil _).symm rfl (Nat.le_refl 1) (by decide)) (fun u hu => by simp at hu; rw [hu]; rfl) rfl (by decide) rfl rfl (by omega) (by omega) rfl ?_; intro _ _)
    rename_i g2 hg2 A4 c4
    refine XT_round (i + 1, (A0', c0', rows', its'), A4, c4, js ++ [itI .u8 A3 c3 x3]) ⟨hi2, ht', by rw [hmap, ← h3]; exact hj.snoc _ _ _⟩ (by dsimp only; omega) ⟨rfl, rfl, rfl, rfl, rfl, trivial⟩ (fun w' hh => ?_)
    dsimp only
    rw [List.map_append]
    have k1 := hh.tail
    have k4 : Hp w (fun _ => False) (Ch.sv A3 c3 5 1 x3.length (x3.map (Value.int .u8)) :: Ch.bagN js :: _) w' := (Hp.mv [_, _] k1).swap
    have k5 := (k4.bagNV.bagNSub (jts := js ++ [itI .u8 A3 c3 x3]) (fun it hit => by
      rcases List.mem_append.1 hit with hit | hit
      · exact List.mem_cons_of_mem _ hit
      · rw [List.mem_singleton.1 hit]; exact List.mem_cons_self ..)).swap
    exact k5
  · have hge : i = Ls.length := by omega
    subst hge
    rw [List.take_length] at ht hj
    repeat first
      | refine XC_region ?_
      | refine X_nil ?_
      | refine XC_seq ?_
      | refine XT_seq ?_
      | refine XT_block_same rfl ?_
      | refine XT_then_exit ?_
      | refine XC_exit ?_
      | refine XC_ret ?_
      | refine Y_res (r_move rfl) rfl ?_
      | refine Y_res (r_assign rfl) rfl ?_
    exact XT_ret2 (.inl rfl) Tryd.results11 rfl rfl (fun w' hh => ⟨g, A0, c0, rows, its, Al, cl, js, rfl, ht, hj, hh⟩)
end Go.Proofs.YtgnhpkdhicfeiaaDoor.NMk
