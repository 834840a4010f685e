/- FeedTexts, walked: true at every input. -/
import Derived.Test.YtfkhdhdbfejbpaaNFdS
import Derived.Test.YtfkhdhdbfejbpaaNFdI
import Derived.Test.YtfkhdhdbfejbpaaMXO
namespace Go.Proofs.Ytfkhdhdbfejbpaa.Fd
open Go Go.RowKit Go.Proofs.Ytfkhdhdbfejbpaa.MX Go.Proofs.Ytfkhdhdbfejbpaa.PFd
set_option linter.unusedVariables false
set_option linter.unusedSimpArgs false
set_option linter.unusedVariables false
def shTx := shSl Try.underlying22 (shStr Try.underlying9)
theorem tx_rdv {w : World} {ks : List ByteArray} {K : Option Addr} {kc : Nat} (h : shTx.has w [.slice K ks.length kc] (K, kc, ks)) : RdV w K kc 1 ks.length (ks.map Value.string) := by
  have h0 := h
  obtain ⟨h1, h2, h3, h4, _, h5⟩ := h
  have hm : maxLen ≤ 9223372036854775807 := by decide
  refine ⟨h2, by have h3 : kc ≤ maxLen := h3; omega, h4, by simp, fun j v hj => ?_⟩
  rw [List.getElem?_map] at hj
  cases hk : ks[j]? with
  | none => rw [hk] at hj; cases hj
  | some b =>
    rw [hk] at hj
    obtain rfl := Option.some.inj hj
    obtain ⟨v, hv, h6⟩ := shSl_cell (by kernel_rfl) h0 (j := j) (x := b) hk
    have h6 : [v] = [Value.string b] := h6.1
    rw [hv, (List.cons.inj h6).1]
theorem put_run {x : Rd} {vs : List Value} {k P : Nat} {v : Value} (hP : 1 ≤ P) (hc : x.cap = P) (hb : x.buf = (vs.take k).drop (k - P)) (hl : x.lost = k - P) (hv : vs[k]? = some v) :
    (x.put v).cap = P ∧ (x.put v).buf = (vs.take (k + 1)).drop (k + 1 - P) ∧ (x.put v).lost = k + 1 - P := by
  obtain ⟨h1, h2⟩ := List.getElem?_eq_some_iff.1 hv
  have hbl : x.buf.length = k - (k - P) := by rw [hb, List.length_drop, List.length_take]; omega
  have htk : (vs.take k).length = k := by rw [List.length_take]; omega
  unfold Rd.put
  by_cases hlt : x.buf.length < x.cap
  · rw [if_pos hlt]
    refine ⟨hc, ?_, by dsimp only; omega⟩
    dsimp only
    rw [hb, show k - P = 0 by omega, show k + 1 - P = 0 by omega, List.take_succ_eq_append_getElem h1, h2]
    rfl
  · rw [if_neg hlt]
    refine ⟨hc, ?_, by dsimp only; omega⟩
    dsimp only
    rw [hb, List.tail_drop, List.take_succ_eq_append_getElem h1, h2, List.drop_append_of_le_length (by omega), show k - P + 1 = k + 1 - P by omega]
set_option maxRecDepth 100000 in
set_option maxHeartbeats 4000000 in
theorem texts_law (l : List ByteArray) (A : Option Addr) (c : Nat) (m : Int) (w : World) (h : shTx.has w [.slice A l.length c] (A, c, l)) (hm : (Lit.int .i64 m).wf = true) :
    Calls Try.prog 3 #[.slice A l.length c, .int .i64 m] w fun e w' => e = .returned (.bool true) ∧ Chg (fun _ => False) w w' := by
  have hm64 := wf64 hm
  have hrd := tx_rdv h
  have hle := hrd.le
  have hcap := hrd.cap
  obtain ⟨vs, hvs⟩ : ∃ vs, vs = l.map Value.string := ⟨_, rfl⟩
  have hvl : vs.length = l.length := by rw [hvs, List.length_map]
  clear h
  refine calls_of_X (Rr := Says w (.bool true)) (vs := [_, _]) (M := Hp w (fun _ => False) []) Try.func3 rfl Try.ntmps3 rfl (Hp.nil _ _) ?_
  repeat first
    | refine XC_region ?_
    | refine X_nil ?_
    | refine XC_condF rfl ?_
    | refine XC_seq ?_
    | refine XT_seq ?_
    | refine XC_skip ?_
    | refine Y_res (r_assign rfl) rfl ?_
    | refine Y_res (r_notB rfl) rfl ?_
    | refine Y_says (g := 6) rfl rfl (fun w1 hM => anchor_any w1) ?_
  refine X_call (g := 7) rfl rfl (fun w1 q1 => (newS_any q1).mono ?_)
  rintro e w2 ⟨gf, rfl, q2⟩
  refine ⟨_, rfl, _, q2, ?_⟩
  clear q1 q2
  repeat first
    | refine XC_region ?_
    | refine X_nil ?_
    | refine XC_condF rfl ?_
    | refine XC_seq ?_
    | refine XT_seq ?_
    | refine XC_skip ?_
    | refine Y_res (r_move rfl) rfl ?_
    | refine Y_res (r_assign rfl) rfl ?_
    | refine Y_res (r_gtr rfl rfl) rfl ?_
    | refine Y_res (r_eqlNil rfl rfl) rfl ?_
    | refine Y_res (r_len rfl) rfl ?_
  by_cases h1 : (300 : Int) < l.length
  · by_cases h2 : m < 1
    · have h3 := h2
      repeat first
        | refine XC_region ?_
        | refine X_nil ?_
        | refine XC_condT rfl ?_
        | refine XC_seq ?_
        | refine XT_seq ?_
        | refine XT_then_ret ?_
        | refine XC_ret ?_
        | refine Y_res (r_move rfl) rfl ?_
        | refine Y_res (r_assign rfl) rfl ?_
        | refine Y_res (r_lss rfl rfl) rfl ?_
        | refine Y_off rfl rfl rfl ?_
        | refine Y_res (r_pickT rfl rfl) rfl ?_
        | refine Y_splitT rfl rfl (by omega) ?_
        | refine Y_splitF rfl rfl (by omega) ?_
      exact XT_says (.inl rfl) Try.results3 rfl (by first | rfl | (congr 1; simp; omega))
    · by_cases h3 : 256 < m
      · repeat first
          | refine XC_region ?_
          | refine X_nil ?_
          | refine XC_condT rfl ?_
          | refine XC_seq ?_
          | refine XT_seq ?_
          | refine XT_then_ret ?_
          | refine XC_ret ?_
          | refine Y_res (r_move rfl) rfl ?_
          | refine Y_res (r_assign rfl) rfl ?_
          | refine Y_res (r_lss rfl rfl) rfl ?_
          | refine Y_res (r_gtr rfl rfl) rfl ?_
          | refine Y_on rfl rfl ?_
          | refine Y_off rfl rfl rfl ?_
          | refine Y_res (r_pickT rfl rfl) rfl ?_
          | refine Y_res (r_pickF rfl rfl) rfl ?_
          | refine Y_splitT rfl rfl (by omega) ?_
          | refine Y_splitF rfl rfl (by omega) ?_
        exact XT_says (.inl rfl) Try.results3 rfl (by first | rfl | (congr 1; simp; omega))
      · repeat first
          | refine XC_region ?_
          | refine X_nil ?_
          | refine XC_condT rfl ?_
          | refine XC_seq ?_
          | refine XT_seq ?_
          | refine XT_then_ret ?_
          | refine XC_ret ?_
          | refine Y_res (r_move rfl) rfl ?_
          | refine Y_res (r_assign rfl) rfl ?_
          | refine Y_res (r_lss rfl rfl) rfl ?_
          | refine Y_res (r_gtr rfl rfl) rfl ?_
          | refine Y_on rfl rfl ?_
          | refine Y_off rfl rfl rfl ?_
          | refine Y_res (r_len rfl) rfl ?_
          | refine Y_res (r_pickT rfl rfl) rfl ?_
          | refine Y_res (r_pickF rfl rfl) rfl ?_
          | refine Y_splitT rfl rfl (by omega) ?_
          | refine Y_splitF rfl rfl (by omega) ?_
        exact XT_says (.inl rfl) Try.results3 rfl (by first | rfl | (congr 1; simp; omega))
  by_cases h2 : m < 1
  · have h3 := h2
    repeat first
      | refine XC_region ?_
      | refine X_nil ?_
      | refine XC_condT rfl ?_
      | refine XC_seq ?_
      | refine XT_seq ?_
      | refine XT_then_ret ?_
      | refine XC_ret ?_
      | refine Y_res (r_move rfl) rfl ?_
      | refine Y_res (r_assign rfl) rfl ?_
      | refine Y_res (r_lss rfl rfl) rfl ?_
      | refine Y_on rfl rfl ?_
      | refine Y_off rfl rfl rfl ?_
      | refine Y_res (r_pickT rfl rfl) rfl ?_
      | refine Y_res (r_pickF rfl rfl) rfl ?_
      | refine Y_splitT rfl rfl (by omega) ?_
      | refine Y_splitF rfl rfl (by omega) ?_
    exact XT_says (.inl rfl) Try.results3 rfl (by first | rfl | (congr 1; simp; omega))
  by_cases h3 : 256 < m
  · repeat first
      | refine XC_region ?_
      | refine X_nil ?_
      | refine XC_condT rfl ?_
      | refine XC_seq ?_
      | refine XT_seq ?_
      | refine XT_then_ret ?_
      | refine XC_ret ?_
      | refine Y_res (r_move rfl) rfl ?_
      | refine Y_res (r_assign rfl) rfl ?_
      | refine Y_res (r_lss rfl rfl) rfl ?_
      | refine Y_res (r_gtr rfl rfl) rfl ?_
      | refine Y_on rfl rfl ?_
      | refine Y_off rfl rfl rfl ?_
      | refine Y_res (r_pickT rfl rfl) rfl ?_
      | refine Y_res (r_pickF rfl rfl) rfl ?_
      | refine Y_splitT rfl rfl (by omega) ?_
      | refine Y_splitF rfl rfl (by omega) ?_
    exact XT_says (.inl rfl) Try.results3 rfl (by first | rfl | (congr 1; simp; omega))
  obtain ⟨P, rfl⟩ : ∃ q : Nat, m = q := ⟨m.toNat, by omega⟩
  have hP : 1 ≤ P := by omega
  have hP2 : P ≤ 256 := by omega
  have hl300 : l.length ≤ 300 := by omega
  repeat first
    | refine Y_res (r_move rfl) rfl ?_
    | refine Y_res (r_lss rfl rfl) rfl ?_
    | refine Y_res (r_gtr rfl rfl) rfl ?_
    | refine Y_on rfl rfl ?_
    | refine Y_res (r_pickF rfl rfl) rfl ?_
    | refine Y_splitF rfl rfl (by omega) ?_
  refine X_call (g := 8) rfl rfl (fun w1 q1 => (joinS_any P q1 (by simp) (by omega)).mono ?_)
  rintro e w2 (⟨hbad, _⟩ | ⟨_, A1, c1, x, rfl, k1, k2, k3, q2⟩)
  · exact absurd (by omega) hbad
  refine ⟨_, rfl, _, q2, ?_⟩
  clear q1 q2
  rw [List.nil_append]
  have hx0 : x.cap = P ∧ x.buf = (vs.take 0).drop (0 - P) ∧ x.lost = 0 - P := ⟨by omega, by rw [k2]; simp, by omega⟩
  clear k1 k2 k3
  repeat first
    | refine XC_region ?_
    | refine X_nil ?_
    | refine XC_condF rfl ?_
    | refine XC_seq ?_
    | refine XT_seq ?_
    | refine XC_block ?_
    | refine XC_skip ?_
    | refine Y_res (r_move rfl) rfl ?_
    | refine Y_res (r_neq rfl rfl) rfl ?_
    | refine Y_on rfl rfl ?_
    | refine Y_res (r_len rfl) rfl ?_
    | refine Y_res (r_pickF rfl rfl) rfl ?_
  refine XC_loop (ι := Nat × Rd) (fun j => j.1 ≤ l.length ∧ (j.2.cap = P ∧ j.2.buf = (vs.take j.1).drop (j.1 - P) ∧ j.2.lost = j.1 - P)) (fun j => [(0, .slice A l.length c), (1, .int .i64 P), (5, .pointer (some ⟨gf, 0, none⟩)), (48, .slice A l.length c), (49, .int .i64 l.length), (50, .int .i64 j.1)])
    (fun j => Hp w (fun _ => False) (FdCS gf A1 c1 [some j.2] [])) (fun j => l.length - j.1) (0, x) ⟨Nat.zero_le _, hx0⟩ ⟨rfl, rfl, rfl, rfl, rfl, rfl, trivial⟩ (fun _ h => h) ?_
  clear hx0
  clear x
  rintro ⟨k, x⟩ ⟨hk, hx⟩
  dsimp only at hk hx ⊢
  obtain ⟨x1, x2, x3⟩ := hx
  have hbl : x.buf.length = k - (k - P) := by rw [x2, List.length_drop, List.length_take]; omega
  repeat first
    | refine XC_region ?_
    | refine X_nil ?_
    | refine XC_seq ?_
    | refine XT_seq ?_
    | refine Y_res (r_lss rfl rfl) rfl ?_
  refine XC_condP rfl (fun hlt => ?_) (fun hge => ?_)
  · have hk2 : k < l.length := by omega
    obtain ⟨v, hv⟩ : ∃ v, vs[k]? = some v := ⟨vs[k]'(by omega), List.getElem?_eq_getElem (by omega)⟩
    have hx' := put_run hP x1 x2 x3 hv
    rw [← hvs] at hrd
    have ok1 : allOk [some x] := fun y hy => by
      obtain rfl : y = x := Option.some.inj (List.mem_singleton.1 hy)
      exact ⟨by omega, by omega, by omega⟩
    repeat first
      | refine XC_region ?_
      | refine X_nil ?_
      | refine XC_seq ?_
      | refine XT_seq ?_
      | refine XC_block ?_
      | refine XC_skip ?_
      | refine Y_res (r_move rfl) rfl ?_
      | refine Y_res (r_assign rfl) rfl ?_
      | refine Y_res (r_indexRv rfl rfl hrd hk2 (by omega)) rfl ?_
      | refine Y_res (r_loadRv rfl hrd old_false hv) rfl ?_
    refine X_call (g := 9) rfl rfl (fun w1 q1 => (tellS_any v q1 ok1 (by simp)).mono ?_)
    rintro e w2 ⟨rfl, q2⟩
    refine ⟨_, rfl, _, q2, ?_⟩
    clear q1 q2
    repeat first
      | refine XC_region ?_
      | refine X_nil ?_
      | refine XC_condF rfl ?_
      | refine XT_seq ?_
      | refine XT_block_normal ?_
      | refine XC_skip ?_
      | refine Y_res (r_move rfl) rfl ?_
      | refine Y_res (r_add64 rfl rfl (by omega)) rfl ?_
      | refine Y_res (r_neq rfl rfl) rfl ?_
    exact XT_round (k + 1, x.put v) ⟨by dsimp only; omega, hx'⟩ (by dsimp only; omega) ⟨rfl, rfl, rfl, rfl, rfl, rfl, trivial⟩ (fun _ h => h)
  obtain rfl : k = l.length := by omega
  repeat first
    | refine XC_region ?_
    | refine X_nil ?_
    | refine XC_seq ?_
    | refine XT_seq ?_
    | refine XT_block_same rfl ?_
    | refine XT_then_exit ?_
    | refine XC_exit ?_
    | refine Y_res (r_move rfl) rfl ?_
    | refine Y_res (r_assign rfl) rfl ?_
    | refine Y_res (r_sub64 rfl rfl (by omega)) rfl ?_
    | refine Y_res (r_len rfl) rfl ?_
    | refine Y_res (r_max2 rfl rfl) rfl ?_
  obtain ⟨f, hf⟩ : ∃ f, f = l.length - P := ⟨_, rfl⟩
  rw [← hf] at x3 x2
  refine Y_re (e := 8) (v' := .int .i64 (f : Nat)) rfl (by congr 1; split <;> omega) ?_
  refine X_call (g := 10) rfl rfl (fun w1 q1 => (lostS_any 1 q1 (by decide)).mono ?_)
  rintro e w2 ⟨rfl, q2⟩
  refine ⟨_, rfl, _, q2, ?_⟩
  clear q1 q2
  rw [show findO [some x] 1 = some x from rfl]
  dsimp only
  rw [x3]
  rw [← hvs] at hrd
  have hx0 : x.buf = vs.drop (f + 0) := by rw [x2, List.take_of_length_le (by omega)]; rfl
  clear x1 x2 x3 hbl hge hk
  repeat first
    | refine XC_region ?_
    | refine X_nil ?_
    | refine XC_seq ?_
    | refine XT_seq ?_
    | refine XC_block ?_
    | refine XC_skip ?_
    | refine Y_res (r_move rfl) rfl ?_
    | refine Y_res (r_neq rfl rfl) rfl ?_
    | refine Y_res (r_len rfl) rfl ?_
    | refine Y_res (r_cutL rfl rfl (by omega)) rfl ?_
    | refine XC_condP rfl (fun hx => absurd rfl hx) (fun _ => ?_)
  refine XC_loop (ι := Nat × Rd) (fun j => j.1 ≤ l.length - f ∧ j.2.buf = vs.drop (f + j.1)) (fun j => [(5, .pointer (some ⟨gf, 0, none⟩)), (70, .slice (cutA A f c 1) (l.length - f) (c - f)), (71, .int .i64 ((l.length - f : Nat) : Int)), (72, .int .i64 j.1)])
    (fun j => Hp w (fun _ => False) (FdCS gf A1 c1 [some j.2] [])) (fun j => l.length - f - j.1) (0, x) ⟨Nat.zero_le _, hx0⟩ ⟨rfl, rfl, rfl, rfl, trivial⟩ (fun _ h => h) ?_
  clear hx0
  clear x
  rintro ⟨k, x⟩ ⟨hk, hx⟩
  dsimp only at hk hx ⊢
  repeat first
    | refine XC_region ?_
    | refine X_nil ?_
    | refine XC_seq ?_
    | refine XT_seq ?_
    | refine Y_res (r_lss rfl rfl) rfl ?_
  refine XC_condP rfl (fun hlt => ?_) (fun hge => ?_)
  · have hk2 : k < l.length - f := by omega
    obtain ⟨s, hs⟩ : ∃ s, l[f + k]? = some s := ⟨l[f + k]'(by omega), List.getElem?_eq_getElem (by omega)⟩
    have hv : vs[f + k]? = some (.string s) := by rw [hvs, List.getElem?_map, hs]; rfl
    obtain ⟨h4, h5⟩ := List.getElem?_eq_some_iff.1 hv
    have hb : x.buf = .string s :: vs.drop (f + (k + 1)) := by rw [hx, List.drop_eq_getElem_cons h4, h5]; rfl
    have hcut := hrd.cut f l.length (by omega) (Nat.le_refl _)
    have hv2 : ((vs.take l.length).drop f)[k]? = some (.string s) := by rw [List.getElem?_drop, List.getElem?_take_of_lt (by omega)]; exact hv
    have ht : takeO [some x] 1 = ([some { x with buf := vs.drop (f + (k + 1)), r := x.r + 1 }], some (.string s)) := takeO_cons (rs := [some x]) (i := 1) rfl hb
    repeat first
      | refine XC_region ?_
      | refine X_nil ?_
      | refine XC_seq ?_
      | refine XT_seq ?_
      | refine XC_block ?_
      | refine XC_skip ?_
      | refine Y_res (r_move rfl) rfl ?_
      | refine Y_res (r_assign rfl) rfl ?_
      | refine Y_res (r_indexRv rfl rfl hcut hk2 (by omega)) rfl ?_
      | refine Y_res (r_loadRv rfl hcut old_false hv2) rfl ?_
    refine X_call (g := 11) rfl rfl (fun w1 q1 => (takeS_any 1 q1 (by decide)).mono ?_)
    rintro e w2 ⟨rfl, q2⟩
    rw [ht] at q2 ⊢
    refine ⟨_, rfl, _, q2, ?_⟩
    clear q1 q2
    repeat first
      | refine XC_region ?_
      | refine X_nil ?_
      | refine XC_seq ?_
      | refine XT_seq ?_
      | refine XT_block_normal ?_
      | refine XC_skip ?_
      | refine Y_res (r_move rfl) rfl ?_
      | refine Y_res (r_assign rfl) rfl ?_
      | refine Y_res (r_add64 rfl rfl (by omega)) rfl ?_
      | refine Y_on rfl rfl ?_
      | refine Y_res (r_notB rfl) rfl ?_
      | refine Y_res (r_extract rfl rfl) rfl ?_
      | refine Y_res (r_pickF rfl rfl) rfl ?_
      | refine Y_res (r_neqT rfl rfl) rfl ?_
      | refine XC_condP rfl (fun hx => absurd rfl hx) (fun _ => ?_)
    exact XT_round (k + 1, { x with buf := vs.drop (f + (k + 1)), r := x.r + 1 }) ⟨by dsimp only; omega, rfl⟩ (by dsimp only; omega) ⟨rfl, rfl, rfl, rfl, trivial⟩ (fun _ h => h)
  obtain rfl : k = l.length - f := by omega
  have hb : x.buf = [] := by rw [hx, List.drop_eq_nil_of_le (by omega)]
  have ht : takeO [some x] 1 = ([some x], none) := takeO_nil (rs := [some x]) (i := 1) rfl hb
  repeat first
    | refine XC_region ?_
    | refine XC_seq ?_
    | refine XT_seq ?_
    | refine XT_block_same rfl ?_
    | refine XT_then_exit ?_
    | refine XC_exit ?_
    | refine Y_res (r_move rfl) rfl ?_
  refine X_call (g := 11) rfl rfl (fun w1 q1 => (takeS_any 1 q1 (by decide)).mono ?_)
  rintro e w2 ⟨rfl, q2⟩
  rw [ht] at q2 ⊢
  refine ⟨_, rfl, _, q2, ?_⟩
  clear q1 q2
  repeat first
    | refine XC_region ?_
    | refine X_nil ?_
    | refine XC_seq ?_
    | refine XT_seq ?_
    | refine Y_res (r_move rfl) rfl ?_
    | refine Y_res (r_assign rfl) rfl ?_
    | refine Y_on rfl rfl ?_
    | refine Y_res (r_notB rfl) rfl ?_
    | refine Y_res (r_extract rfl rfl) rfl ?_
    | refine Y_res (r_pickT rfl rfl) rfl ?_
    | refine Y_res (r_eqlT rfl rfl) rfl ?_
    | refine Y_splitT rfl rfl rfl ?_
  refine X_call (g := 12) rfl rfl (fun w1 q1 => (waitsS_any 1 q1 (by decide)).mono ?_)
  rintro e w2 ⟨rfl, q2⟩
  refine ⟨_, rfl, _, q2, ?_⟩
  clear q1 q2
  rw [show findO [some x] 1 = some x from rfl]
  dsimp only
  rw [hb]
  repeat first
    | refine X_nil ?_
    | refine XT_seq ?_
    | refine XC_ret ?_
    | refine Y_res (r_assign rfl) rfl ?_
    | refine Y_res (r_eql rfl rfl) rfl ?_
    | refine Y_on rfl rfl ?_
    | refine Y_res (r_pickT rfl rfl) rfl ?_
  exact XT_says (.inl rfl) Try.results3 rfl (by simp)
end Go.Proofs.Ytfkhdhdbfejbpaa.Fd
