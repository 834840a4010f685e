/- Readers of news: walked. -/
import Derived.Test.YtfkhdhdbfejbpaaMT
import Derived.Test.YtfkhdhdbfejbpaaPFeed
import Derived.Test.YtfkhdhdbfejbpaaMXE
import Derived.Test.YtfkhdhdbfejbpaaMXY
import Derived.Test.YtfkhdhdbfejbpaaMXD
namespace Go.Proofs.Ytfkhdhdbfejbpaa.Fd
open Go Go.RowKit Go.Proofs.Ytfkhdhdbfejbpaa.MX Go.Proofs.Ytfkhdhdbfejbpaa.PFd
set_option linter.unusedVariables false
set_option linter.unusedSimpArgs false
set_option linter.unusedVariables false
/-! #### Feeds of I -/
def rdCI : Option Rd → List Ch
  | none => []
  | some x => [Ch.chn x.c x.cap x.buf x.s x.r, Ch.blk x.g [.chan (some x.c), .int .i64 x.lost] 61]
def FdCI (gf : Nat) (A : Option Addr) (c : Nat) (rs : List (Option Rd)) (es : List Ch) : List Ch :=
  Ch.blk gf [.slice A rs.length c] 57 :: Ch.sv A c 58 1 rs.length (rs.map rdV) :: (rs.flatMap rdCI ++ es)
section
variable {w w0 : World} {TS : Nat → Prop} {es : List Ch} {gf c : Nat} {A : Option Addr} {rs : List (Option Rd)}
set_option maxHeartbeats 1000000 in
theorem putI_any (x : Rd) (v : Value) (hT : Hp w0 TS (rdCI (some x) ++ es) w) (hx : x.Ok) :
    Calls Try.prog 22 #[.pointer (some ⟨x.g, 0, none⟩), v] w fun e w' => e = .returned (.tuple #[]) ∧ Hp w0 TS (rdCI (some (x.put v)) ++ es) w' := by
  have hcp := hx.cp
  have hle := hx.le
  have hlo := hx.lo
  refine calls_of_XN (vs := [_, _]) (M := Hp w0 TS (rdCI (some x) ++ es)) Try.func22 rfl Try.ntmps22 rfl hT ?_
  clear hT
  unfold rdCI
  dsimp only [List.cons_append, List.nil_append]
  repeat first
    | refine XN_seq ?_
    | refine XN_block ?_
    | refine XN_loop (XL_round ?_)
  refine XN_of (XC_region ?_)
  repeat first
    | refine X_nil ?_
    | refine Y_res (r_move rfl) rfl ?_
    | refine Y_res (r_field' rfl) rfl ?_
    | refine Y_res (r_nilCheck rfl) rfl ?_
    | refine Y_res (r_loadB rfl rfl) rfl ?_
  repeat first
    | refine XT_seqN ?_
  refine XN_of (XC_region ?_)
  repeat first
    | refine X_nil ?_
    | refine Y_res (r_move rfl) rfl ?_
  repeat first
    | refine XN_seq ?_
    | refine XT_seqN ?_
  by_cases hlt : x.buf.length < x.cap
  · have hp : x.put v = { x with buf := x.buf ++ [v], s := x.s + 1 } := by rw [Rd.put, if_pos hlt]
    rw [hp]
    refine XN_send rfl rfl rfl hlt ?_
    repeat first
      | refine X_nil ?_
      | refine Y_res (r_eql rfl rfl) rfl ?_
      | refine Y_res (r_extract rfl rfl) rfl ?_
    repeat first
      | refine XT_seqN ?_
      | refine XN_block ?_
      | refine XN_condT rfl ?_
      | refine XT_block_ret ?_
      | refine XT_then_ret ?_
      | refine XN_of (XC_ret ?_)
    exact XT_ret0 (.inl rfl) rfl (fun w' h => ⟨rfl, h⟩)
  · have hp : x.put v = { x with buf := x.buf.tail ++ [v], s := x.s + 1, r := x.r + 1, lost := x.lost + 1 } := by rw [Rd.put, if_neg hlt]
    rw [hp]
    refine XN_send0 rfl rfl rfl (by omega) ?_
    repeat first
      | refine X_nil ?_
      | refine Y_res (r_eql rfl rfl) rfl ?_
      | refine Y_res (r_extract rfl rfl) rfl ?_
    repeat first
      | refine XN_seq ?_
      | refine XT_seqN ?_
      | refine XN_block ?_
      | refine XN_condF rfl ?_
      | refine XT_block_normal ?_
      | refine XN_of (XC_skip ?_)
    refine XN_of (XC_region ?_)
    repeat first
      | refine X_nil ?_
      | refine Y_res (r_move rfl) rfl ?_
      | refine Y_res (r_field' rfl) rfl ?_
      | refine Y_res (r_nilCheck rfl) rfl ?_
      | refine Y_res (r_loadB rfl rfl) rfl ?_
    repeat first
      | refine XN_seq ?_
      | refine XT_seqN ?_
    obtain ⟨u, t, hbt⟩ : ∃ u t, x.buf = u :: t := by
      cases hb : x.buf with
      | nil => rw [hb] at hlt; exact absurd (show 0 < x.cap by omega) hlt
      | cons u t => exact ⟨u, t, rfl⟩
    have hbl : x.buf.length = t.length + 1 := by rw [hbt]; rfl
    rw [hbt]
    refine XN_recv rfl rfl ?_
    repeat first
      | refine X_nil ?_
      | refine Y_res (r_eql rfl rfl) rfl ?_
      | refine Y_res (r_extract rfl rfl) rfl ?_
    repeat first
      | refine XT_seqN ?_
      | refine XN_block ?_
      | refine XN_condT rfl ?_
    refine XN_of (XC_region ?_)
    repeat first
      | refine X_nil ?_
      | refine XT_block_normal ?_
      | refine Y_res (r_move rfl) rfl ?_
      | refine Y_res (r_add64 rfl rfl (by omega)) rfl ?_
      | refine Y_res (r_field' rfl) rfl ?_
      | refine Y_res (r_nilCheck rfl) rfl ?_
      | refine Y_res (r_loadB rfl rfl) rfl ?_
      | refine X_storeB rfl rfl rfl (by simp) ?_
    repeat first
      | refine XN_seq ?_
      | refine XN_block ?_
      | refine XT_again (XL_round ?_)
    refine XN_of (XC_region ?_)
    repeat first
      | refine X_nil ?_
      | refine Y_res (r_move rfl) rfl ?_
      | refine Y_res (r_field' rfl) rfl ?_
      | refine Y_res (r_nilCheck rfl) rfl ?_
      | refine Y_res (r_loadB rfl rfl) rfl ?_
    repeat first
      | refine XT_seqN ?_
    refine XN_of (XC_region ?_)
    repeat first
      | refine X_nil ?_
      | refine Y_res (r_move rfl) rfl ?_
    repeat first
      | refine XN_seq ?_
      | refine XT_seqN ?_
    refine XN_send rfl rfl rfl (by omega) ?_
    repeat first
      | refine X_nil ?_
      | refine Y_res (r_eql rfl rfl) rfl ?_
      | refine Y_res (r_extract rfl rfl) rfl ?_
    repeat first
      | refine XT_seqN ?_
      | refine XN_block ?_
      | refine XN_condT rfl ?_
      | refine XT_block_ret ?_
      | refine XT_then_ret ?_
      | refine XN_of (XC_ret ?_)
    exact XT_ret0 (.inl rfl) rfl (fun w' h => ⟨rfl, h⟩)
/-- All but the k-th reader. -/
def FdRI (gf : Nat) (A : Option Addr) (c : Nat) (rs : List (Option Rd)) (k : Nat) (es : List Ch) : List Ch :=
  Ch.blk gf [.slice A rs.length c] 57 :: Ch.sv A c 58 1 rs.length (rs.map rdV) :: ((rs.take k).flatMap rdCI ++ ((rs.drop (k + 1)).flatMap rdCI ++ es))
theorem fd_permI {k : Nat} {o : Option Rd} (hk : rs[k]? = some o) : (FdCI gf A c rs es).Perm (rdCI o ++ FdRI gf A c rs k es) := by
  obtain ⟨h1, h2⟩ := List.getElem?_eq_some_iff.1 hk
  have e : rs.flatMap rdCI = (rs.take k).flatMap rdCI ++ (rdCI o ++ (rs.drop (k + 1)).flatMap rdCI) := by
    conv => lhs; rw [← List.take_append_drop k rs, List.drop_eq_getElem_cons h1, h2]
    rw [List.flatMap_append, List.flatMap_cons]
  have h3 := List.perm_append_comm_assoc (Ch.blk gf [.slice A rs.length c] 57 :: Ch.sv A c 58 1 rs.length (rs.map rdV) :: (rs.take k).flatMap rdCI) (rdCI o) ((rs.drop (k + 1)).flatMap rdCI ++ es)
  unfold FdCI FdRI
  rw [e]
  simpa [List.append_assoc] using h3
theorem fdR_setI {k : Nat} {x y : Rd} (hk : rs[k]? = some (some x)) (hg : y.g = x.g) : FdRI gf A c (rs.set k (some y)) k es = FdRI gf A c rs k es := by
  obtain ⟨h1, h2⟩ := List.getElem?_eq_some_iff.1 hk
  have e1 : (rs.set k (some y)).map rdV = rs.map rdV := by
    apply List.ext_getElem?
    intro i
    rw [List.getElem?_map, List.getElem?_map, List.getElem?_set]
    by_cases hi : k = i
    · subst hi
      rw [if_pos rfl, if_pos h1, hk]
      simp [rdV, hg]
    · rw [if_neg hi]
  unfold FdRI
  rw [e1, List.length_set, List.take_set_of_le (Nat.le_refl _), List.drop_set_of_lt (Nat.lt_succ_self k)]
theorem fd_inI {k : Nat} {x : Rd} (hk : rs[k]? = some (some x)) (h : Hp w0 TS (FdCI gf A c rs es) w) : Hp w0 TS (rdCI (some x) ++ FdRI gf A c rs k es) w := h.of_perm (fd_permI hk)
theorem fd_outI {k : Nat} {x y : Rd} (hk : rs[k]? = some (some x)) (hg : y.g = x.g) (h : Hp w0 TS (rdCI (some y) ++ FdRI gf A c rs k es) w) : Hp w0 TS (FdCI gf A c (rs.set k (some y)) es) w := by
  obtain ⟨h1, _⟩ := List.getElem?_eq_some_iff.1 hk
  rw [← fdR_setI (y := y) hk hg] at h
  exact h.of_perm (fd_permI (o := some y) (by rw [List.getElem?_set_self h1])).symm
set_option maxHeartbeats 1000000 in
theorem findI_any (i : Int) (hT : Hp w0 TS (FdCI gf A c rs es) w) (hi : -9223372036854775808 ≤ i ∧ i ≤ 9223372036854775807) :
    Calls Try.prog 23 #[.pointer (some ⟨gf, 0, none⟩), .int .i64 i] w fun e w' => e = .returned (rdV (findO rs i)) ∧ Hp w0 TS (FdCI gf A c rs es) w' := by
  refine calls_of_X (vs := [_, _]) (M := Hp w0 TS (FdCI gf A c rs es)) Try.func23 rfl Try.ntmps23 rfl hT ?_
  clear hT
  unfold FdCI
  repeat first
    | refine XC_region ?_
    | refine X_nil ?_
    | refine XC_seq ?_
    | refine XT_seq ?_
    | refine Y_res (r_move rfl) rfl ?_
    | refine Y_res (r_assign rfl) rfl ?_
    | refine Y_res (r_lss rfl rfl) rfl ?_
  refine Y_split rfl rfl (fun h1 => ?_) (fun h1 => ?_)
  · have e1 : findO rs i = none := by rw [findO, if_neg (by omega)]
    rw [e1]
    repeat first
      | refine XC_region ?_
      | refine X_nil ?_
      | refine XC_condT rfl ?_
      | refine XC_seq ?_
      | refine XT_seq ?_
      | refine XT_then_ret ?_
      | refine XC_ret ?_
      | refine Y_res (r_assign rfl) rfl ?_
      | refine Y_off rfl rfl rfl ?_
      | refine Y_res (r_pickT rfl rfl) rfl ?_
    exact XT_ret1 (.inl rfl) Try.results23 rfl (fun w' h => ⟨rfl, h⟩)
  repeat first
    | refine X_nil ?_
    | refine XT_seq ?_
    | refine Y_res (r_move rfl) rfl ?_
    | refine Y_res (r_gtr rfl rfl) rfl ?_
    | refine Y_on rfl rfl ?_
    | refine Y_res (r_len rfl) rfl ?_
    | refine Y_res (r_field' rfl) rfl ?_
    | refine Y_res (r_nilCheck rfl) rfl ?_
    | refine Y_res (r_loadB rfl rfl) rfl ?_
    | refine Y_res (r_pickF rfl rfl) rfl ?_
  refine XC_condP rfl (fun h2 => ?_) (fun h2 => ?_)
  · have e1 : findO rs i = none := by rw [findO, if_neg (by omega)]
    rw [e1]
    repeat first
      | refine XC_region ?_
      | refine X_nil ?_
      | refine XC_seq ?_
      | refine XT_seq ?_
      | refine XT_then_ret ?_
      | refine XC_ret ?_
      | refine Y_res (r_assign rfl) rfl ?_
    exact XT_ret1 (.inl rfl) Try.results23 rfl (fun w' h => ⟨rfl, h⟩)
  · obtain ⟨k, rfl⟩ : ∃ k : Nat, i = (k : Int) + 1 := ⟨(i - 1).toNat, by omega⟩
    have hk : k < rs.length := by omega
    rw [findO_in hk]
    have hv : (rs.map rdV)[k]? = some (rdV (rs.getD k none)) := by rw [List.getElem?_map, List.getD_eq_getElem?_getD, List.getElem?_eq_getElem hk]; rfl
    repeat first
      | refine XC_region ?_
      | refine XC_seq ?_
      | refine XT_seq ?_
      | refine XC_skip ?_
      | refine Y_res (r_move rfl) rfl ?_
      | refine Y_res (r_sub64 rfl rfl (by omega)) rfl ?_
      | refine Y_res (r_field' rfl) rfl ?_
      | refine Y_res (r_nilCheck rfl) rfl ?_
      | refine Y_res (r_loadB rfl rfl) rfl ?_
    refine Y_re (e := 21) (v' := .int .i64 (k : Nat)) rfl (by congr 1; omega) ?_
    repeat first
      | refine X_nil ?_
      | refine XT_seq ?_
      | refine XC_ret ?_
      | refine Y_res (r_assign rfl) rfl ?_
      | refine Y_res (r_indexV0 (i := k) rfl rfl hk (Nat.le_refl _)) rfl ?_
      | refine Y_res (r_loadV (i := k) rfl hv) rfl ?_
    exact XT_ret1 (.inl rfl) Try.results23 rfl (fun w' h => ⟨rfl, h⟩)
set_option maxHeartbeats 1000000 in
theorem waitsI_any (i : Int) (hT : Hp w0 TS (FdCI gf A c rs es) w) (hi : -9223372036854775808 ≤ i ∧ i ≤ 9223372036854775807) :
    Calls Try.prog 17 #[.pointer (some ⟨gf, 0, none⟩), .int .i64 i] w fun e w' => e = .returned (.int .i64 (match findO rs i with | none => (0 : Nat) | some x => x.buf.length)) ∧ Hp w0 TS (FdCI gf A c rs es) w' := by
  refine calls_of_X (vs := [_, _]) (M := Hp w0 TS (FdCI gf A c rs es)) Try.func17 rfl Try.ntmps17 rfl hT ?_
  clear hT
  repeat first
    | refine XC_region ?_
    | refine X_nil ?_
    | refine XC_seq ?_
    | refine XT_seq ?_
    | refine Y_res (r_move rfl) rfl ?_
    | refine Y_res (r_assign rfl) rfl ?_
  refine X_call (g := 23) rfl rfl (fun w1 q1 => (findI_any i q1 hi).mono ?_)
  rintro e w2 ⟨rfl, q2⟩
  refine ⟨_, rfl, _, q2, ?_⟩
  clear q1 q2
  cases hf : findO rs i with
  | none =>
    dsimp only [rdV]
    repeat first
      | refine XC_region ?_
      | refine X_nil ?_
      | refine XC_condF rfl ?_
      | refine XC_seq ?_
      | refine XT_seq ?_
      | refine XC_skip ?_
      | refine XC_ret ?_
      | refine Y_res (r_move rfl) rfl ?_
      | refine Y_res (r_assign rfl) rfl ?_
      | refine Y_res (r_neqNil2 rfl rfl) rfl ?_
    exact XT_ret1 (.inl rfl) Try.results17 rfl (fun w' h => ⟨rfl, h⟩)
  | some x =>
    obtain ⟨k, _, hk⟩ := findO_some hf
    dsimp only [rdV]
    refine X_mem (M' := Hp w0 TS (rdCI (some x) ++ FdRI gf A c rs k es)) (fun _ h => fd_inI hk h) ?_
    unfold rdCI
    dsimp only [List.cons_append, List.nil_append]
    repeat first
      | refine XC_region ?_
      | refine X_nil ?_
      | refine XC_condT rfl ?_
      | refine XC_seq ?_
      | refine XT_seq ?_
      | refine XT_then_ret ?_
      | refine XC_ret ?_
      | refine Y_res (r_move rfl) rfl ?_
      | refine Y_res (r_assign rfl) rfl ?_
      | refine Y_res (r_neqNil rfl rfl) rfl ?_
      | refine Y_res (r_field' rfl) rfl ?_
      | refine Y_res (r_nilCheck rfl) rfl ?_
      | refine Y_res (r_loadB rfl rfl) rfl ?_
      | refine Y_res (r_lenC Try.underlying59 rfl) rfl ?_
    exact XT_ret1 (.inl rfl) Try.results17 rfl (fun w' h => ⟨rfl, Hp.of_perm h (fd_permI hk).symm⟩)
set_option maxHeartbeats 1000000 in
theorem lostI_any (i : Int) (hT : Hp w0 TS (FdCI gf A c rs es) w) (hi : -9223372036854775808 ≤ i ∧ i ≤ 9223372036854775807) :
    Calls Try.prog 18 #[.pointer (some ⟨gf, 0, none⟩), .int .i64 i] w fun e w' => e = .returned (.int .i64 (match findO rs i with | none => (0 : Nat) | some x => x.lost)) ∧ Hp w0 TS (FdCI gf A c rs es) w' := by
  refine calls_of_X (vs := [_, _]) (M := Hp w0 TS (FdCI gf A c rs es)) Try.func18 rfl Try.ntmps18 rfl hT ?_
  clear hT
  repeat first
    | refine XC_region ?_
    | refine X_nil ?_
    | refine XC_seq ?_
    | refine XT_seq ?_
    | refine Y_res (r_move rfl) rfl ?_
    | refine Y_res (r_assign rfl) rfl ?_
  refine X_call (g := 23) rfl rfl (fun w1 q1 => (findI_any i q1 hi).mono ?_)
  rintro e w2 ⟨rfl, q2⟩
  refine ⟨_, rfl, _, q2, ?_⟩
  clear q1 q2
  cases hf : findO rs i with
  | none =>
    dsimp only [rdV]
    repeat first
      | refine XC_region ?_
      | refine X_nil ?_
      | refine XC_condF rfl ?_
      | refine XC_seq ?_
      | refine XT_seq ?_
      | refine XC_skip ?_
      | refine XC_ret ?_
      | refine Y_res (r_move rfl) rfl ?_
      | refine Y_res (r_assign rfl) rfl ?_
      | refine Y_res (r_neqNil2 rfl rfl) rfl ?_
    exact XT_ret1 (.inl rfl) Try.results18 rfl (fun w' h => ⟨rfl, h⟩)
  | some x =>
    obtain ⟨k, _, hk⟩ := findO_some hf
    dsimp only [rdV]
    refine X_mem (M' := Hp w0 TS (rdCI (some x) ++ FdRI gf A c rs k es)) (fun _ h => fd_inI hk h) ?_
    unfold rdCI
    dsimp only [List.cons_append, List.nil_append]
    repeat first
      | refine XC_region ?_
      | refine X_nil ?_
      | refine XC_condT rfl ?_
      | refine XC_seq ?_
      | refine XT_seq ?_
      | refine XT_then_ret ?_
      | refine XC_ret ?_
      | refine Y_res (r_move rfl) rfl ?_
      | refine Y_res (r_assign rfl) rfl ?_
      | refine Y_res (r_neqNil rfl rfl) rfl ?_
      | refine Y_res (r_field' rfl) rfl ?_
      | refine Y_res (r_nilCheck rfl) rfl ?_
      | refine Y_res (r_loadB rfl rfl) rfl ?_
    exact XT_ret1 (.inl rfl) Try.results18 rfl (fun w' h => ⟨rfl, Hp.of_perm h (fd_permI hk).symm⟩)
set_option maxHeartbeats 1000000 in
theorem takeI_any (i : Int) (hT : Hp w0 TS (FdCI gf A c rs es) w) (hi : -9223372036854775808 ≤ i ∧ i ≤ 9223372036854775807) :
    Calls Try.prog 16 #[.pointer (some ⟨gf, 0, none⟩), .int .i64 i] w fun e w' => e = .returned (.tuple #[(takeO rs i).2.getD (.int .i64 0), .bool (takeO rs i).2.isSome]) ∧ Hp w0 TS (FdCI gf A c (takeO rs i).1 es) w' := by
  refine calls_of_XN (vs := [_, _]) (M := Hp w0 TS (FdCI gf A c rs es)) Try.func16 rfl Try.ntmps16 rfl hT ?_
  clear hT
  repeat first
    | refine XN_seq ?_
  refine XN_of (XC_region ?_)
  repeat first
    | refine X_nil ?_
    | refine Y_res (r_assign rfl) rfl ?_
  repeat first
    | refine XN_seq ?_
    | refine XT_seqN ?_
  refine XN_of (XC_region ?_)
  repeat first
    | refine X_nil ?_
    | refine Y_res (r_assign rfl) rfl ?_
  repeat first
    | refine XN_seq ?_
    | refine XT_seqN ?_
  refine XN_of (XC_region ?_)
  repeat first
    | refine Y_res (r_move rfl) rfl ?_
  refine X_call (g := 23) rfl rfl (fun w1 q1 => (findI_any i q1 hi).mono ?_)
  rintro e w2 ⟨rfl, q2⟩
  refine ⟨_, rfl, _, q2, ?_⟩
  clear q1 q2
  repeat first
    | refine X_nil ?_
    | refine Y_res (r_assign rfl) rfl ?_
  repeat first
    | refine XN_seq ?_
    | refine XT_seqN ?_
  refine XN_of (XC_region ?_)
  cases hf : findO rs i with
  | none =>
    rw [takeO_none hf]
    dsimp only [rdV]
    repeat first
      | refine X_nil ?_
      | refine Y_res (r_move rfl) rfl ?_
      | refine Y_res (r_eqlNil2 rfl rfl) rfl ?_
    repeat first
      | refine XN_seq ?_
      | refine XT_seqN ?_
      | refine XN_condT rfl ?_
    refine XN_of (XC_region ?_)
    repeat first
      | refine X_nil ?_
      | refine Y_res (r_move rfl) rfl ?_
      | refine Y_res (r_assign rfl) rfl ?_
    repeat first
      | refine XT_seqN ?_
      | refine XT_then_ret ?_
      | refine XN_of (XC_ret ?_)
    exact XT_ret2 (.inl rfl) Try.results16 rfl rfl (fun w' h => ⟨rfl, h⟩)
  | some x =>
    obtain ⟨k, hik, hk⟩ := findO_some hf
    dsimp only [rdV]
    repeat first
      | refine X_nil ?_
      | refine Y_res (r_move rfl) rfl ?_
      | refine Y_res (r_eqlNil rfl rfl) rfl ?_
    repeat first
      | refine XN_seq ?_
      | refine XT_seqN ?_
      | refine XN_condF rfl ?_
      | refine XN_of (XC_skip ?_)
    refine XN_of (XC_region ?_)
    refine X_mem (M' := Hp w0 TS (rdCI (some x) ++ FdRI gf A c rs k es)) (fun _ h => fd_inI hk h) ?_
    unfold rdCI
    dsimp only [List.cons_append, List.nil_append]
    repeat first
      | refine X_nil ?_
      | refine Y_res (r_move rfl) rfl ?_
      | refine Y_res (r_field' rfl) rfl ?_
      | refine Y_res (r_nilCheck rfl) rfl ?_
      | refine Y_res (r_loadB rfl rfl) rfl ?_
    repeat first
      | refine XN_seq ?_
      | refine XT_seqN ?_
    cases hb : x.buf with
    | nil =>
      rw [takeO_nil hf hb]
      refine XN_recv0 rfl rfl ?_
      repeat first
        | refine X_nil ?_
        | refine Y_res (r_eql rfl rfl) rfl ?_
        | refine Y_res (r_extract rfl rfl) rfl ?_
      repeat first
        | refine XN_seq ?_
        | refine XT_seqN ?_
        | refine XN_block ?_
        | refine XN_condF rfl ?_
      refine XN_of (XC_region ?_)
      repeat first
        | refine X_nil ?_
        | refine Y_res (r_move rfl) rfl ?_
        | refine Y_res (r_assign rfl) rfl ?_
      repeat first
        | refine XT_seqN ?_
        | refine XT_block_ret ?_
        | refine XN_of (XC_ret ?_)
      refine XT_ret2 (.inl rfl) Try.results16 rfl rfl (fun w' h => ⟨rfl, ?_⟩)
      have h2 : Hp w0 TS (rdCI (some x) ++ FdRI gf A c rs k es) w' := by unfold rdCI; dsimp only; rw [hb]; exact h
      exact Hp.of_perm h2 (fd_permI hk).symm
    | cons v t =>
      rw [takeO_cons hf hb]
      refine XN_recv rfl rfl ?_
      repeat first
        | refine X_nil ?_
        | refine Y_res (r_eql rfl rfl) rfl ?_
        | refine Y_res (r_extract rfl rfl) rfl ?_
      repeat first
        | refine XN_seq ?_
        | refine XT_seqN ?_
        | refine XN_block ?_
        | refine XN_condT rfl ?_
      refine XN_of (XC_region ?_)
      repeat first
        | refine X_nil ?_
        | refine Y_res (r_assign rfl) rfl ?_
        | refine Y_res (r_extract rfl rfl) rfl ?_
      repeat first
        | refine XN_seq ?_
        | refine XT_seqN ?_
      refine XN_of (XC_region ?_)
      repeat first
        | refine X_nil ?_
        | refine Y_res (r_move rfl) rfl ?_
        | refine Y_res (r_assign rfl) rfl ?_
      repeat first
        | refine XT_seqN ?_
        | refine XT_block_ret ?_
        | refine XN_of (XC_ret ?_)
      refine XT_ret2 (.inl rfl) Try.results16 rfl rfl (fun w' h => ⟨rfl, ?_⟩)
      dsimp only
      rw [show (i - 1).toNat = k by omega]
      exact fd_outI (y := { x with buf := t, r := x.r + 1 }) hk rfl h
set_option maxHeartbeats 1000000 in
theorem tellI_any (v : Value) (hT : Hp w0 TS (FdCI gf A c rs es) w) (ho : allOk rs) (hn : rs.length ≤ 1000000) :
    Calls Try.prog 15 #[.pointer (some ⟨gf, 0, none⟩), v] w fun e w' => e = .returned (.int .i64 (cnt rs)) ∧ Hp w0 TS (FdCI gf A c (rs.map (putO v)) es) w' := by
  refine calls_of_X (vs := [_, _]) (M := Hp w0 TS (FdCI gf A c rs es)) Try.func15 rfl Try.ntmps15 rfl hT ?_
  clear hT
  refine XC_mem (M' := Hp w0 TS (FdCI gf A c (toldTo rs v 0) es)) (fun _ h => by rw [toldTo_zero]; exact h) ?_
  unfold FdCI
  rw [toldTo_len]
  repeat first
    | refine XC_region ?_
    | refine X_nil ?_
    | refine XC_seq ?_
    | refine XT_seq ?_
    | refine XC_block ?_
    | refine Y_res (r_move rfl) rfl ?_
    | refine Y_res (r_assign rfl) rfl ?_
    | refine Y_res (r_len rfl) rfl ?_
    | refine Y_res (r_field' rfl) rfl ?_
    | refine Y_res (r_nilCheck rfl) rfl ?_
    | refine Y_res (r_loadB rfl rfl) rfl ?_
  refine XC_loop (ι := Nat) (fun j => j ≤ rs.length) (fun j => [(1, v), (5, .int .i64 (cnt (rs.take j))), (11, .slice A rs.length c), (12, .int .i64 rs.length), (13, .int .i64 j)]) (fun j => Hp w0 TS (FdCI gf A c (toldTo rs v j) es)) (fun j => rs.length - j) 0 (Nat.zero_le _) ⟨rfl, rfl, rfl, rfl, rfl, trivial⟩ (fun _ h => by unfold FdCI; rw [toldTo_len]; exact h) ?_
  intro j hj
  repeat first
    | refine XC_region ?_
    | refine X_nil ?_
    | refine XC_seq ?_
    | refine XT_seq ?_
    | refine Y_res (r_lss rfl rfl) rfl ?_
  refine XC_condP rfl (fun hlt => ?_) (fun hge => ?_)
  · have hj2 : j < rs.length := by omega
    obtain ⟨o, hoj⟩ : ∃ o, rs[j]? = some o := ⟨rs[j], List.getElem?_eq_getElem hj2⟩
    obtain ⟨ht1, ht2⟩ := toldTo_at (v := v) hoj
    have hc1 := cnt_succ hoj
    have hc2 := cnt_le (rs.take j)
    rw [List.length_take] at hc2
    have hv : ((toldTo rs v j).map rdV)[j]? = some (rdV o) := by rw [toldTo_vals, List.getElem?_map, hoj]; rfl
    unfold FdCI
    rw [toldTo_len]
    repeat first
      | refine XC_region ?_
      | refine X_nil ?_
      | refine XC_seq ?_
      | refine XT_seq ?_
      | refine XC_block ?_
      | refine XC_skip ?_
      | refine Y_res (r_move rfl) rfl ?_
      | refine Y_res (r_assign rfl) rfl ?_
      | refine Y_res (r_indexV0 (i := j) rfl rfl hj2 (Nat.le_refl _)) rfl ?_
      | refine Y_res (r_loadV (i := j) rfl hv) rfl ?_
    cases o with
    | none =>
      dsimp only [rdV]
      repeat first
        | refine XC_region ?_
        | refine X_nil ?_
        | refine XC_condF rfl ?_
        | refine XT_seq ?_
        | refine XT_block_normal ?_
        | refine XC_skip ?_
        | refine Y_res (r_move rfl) rfl ?_
        | refine Y_res (r_add64 rfl rfl (by omega)) rfl ?_
        | refine Y_res (r_neqNil2 rfl rfl) rfl ?_
      refine XT_re (e := 5) (v' := .int .i64 (cnt (rs.take (j + 1)))) rfl (by rw [hc1]; rfl) ?_
      refine XT_round (j + 1) hj2 (by omega) ⟨rfl, rfl, rfl, rfl, rfl, trivial⟩ (fun _ h => ?_)
      rw [ht2, show putO v none = none from rfl, set_self ht1]
      try unfold FdCI
      rw [toldTo_len]
      exact h
    | some x =>
      have hx := ho x (List.mem_of_getElem? hoj)
      dsimp only [rdV]
      repeat first
        | refine XC_region ?_
        | refine X_nil ?_
        | refine XC_condT rfl ?_
        | refine XC_seq ?_
        | refine XT_seq ?_
        | refine Y_res (r_move rfl) rfl ?_
        | refine Y_res (r_neqNil rfl rfl) rfl ?_
      refine X_call (g := 22) rfl rfl (fun w1 q1 => (putI_any x v (fd_inI (gf := gf) (A := A) (c := c) (es := es) ht1 (by unfold FdCI; rw [toldTo_len]; exact q1)) hx).mono ?_)
      rintro e w2 ⟨rfl, q2⟩
      refine ⟨_, rfl, _, fd_outI ht1 (Rd.put_g x v) q2, ?_⟩
      clear q1 q2
      repeat first
        | refine XC_region ?_
        | refine X_nil ?_
        | refine XT_seq ?_
        | refine XT_block_normal ?_
        | refine Y_res (r_move rfl) rfl ?_
        | refine Y_res (r_assign rfl) rfl ?_
        | refine Y_res (r_add64 rfl rfl (by omega)) rfl ?_
      refine XT_re (e := 5) (v' := .int .i64 (cnt (rs.take (j + 1)))) rfl (by rw [hc1]; rfl) ?_
      refine XT_round (j + 1) hj2 (by omega) ⟨rfl, rfl, rfl, rfl, rfl, trivial⟩ (fun _ h => ?_)
      rw [ht2]
      exact h
  · obtain rfl : j = rs.length := by omega
    have e1 := List.take_length (l := rs)
    repeat first
      | refine XC_region ?_
      | refine X_nil ?_
      | refine XC_seq ?_
      | refine XT_seq ?_
      | refine XT_block_same rfl ?_
      | refine XT_then_exit ?_
      | refine XC_exit ?_
      | refine XC_ret ?_
      | refine Y_res (r_move rfl) rfl ?_
      | refine Y_res (r_assign rfl) rfl ?_
    exact XT_ret1 (.inl rfl) Try.results15 rfl (fun w' h => ⟨by rw [e1], by rw [← toldTo_all]; exact h⟩)
theorem map_setVI (k : Nat) (o : Option Rd) : (rs.set k o).map rdV = (rs.map rdV).set k (rdV o) := List.map_set
set_option maxHeartbeats 1000000 in
theorem newI_any (hT : Hp w0 TS es w) : Calls Try.prog 13 #[] w fun e w' => ∃ gf, e = .returned (.pointer (some ⟨gf, 0, none⟩)) ∧ Hp w0 TS (FdCI gf none 0 [] es) w' := by
  refine calls_of_X (vs := []) (M := Hp w0 TS es) Try.func13 rfl Try.ntmps13 rfl hT ?_
  clear hT
  repeat first
    | refine XC_region ?_
    | refine X_nil ?_
    | refine XC_seq ?_
    | refine XT_seq ?_
    | refine XC_ret ?_
    | refine Y_res (r_assign rfl) rfl ?_
    | refine Y_res (r_buildX (v := .agg [Value.slice none 0 0].toArray) rfl (fun w => by kernel_rfl)) rfl ?_
    | (refine X_boxA rfl rfl ?_; intro _ _)
  rename_i gf hgf
  exact XT_ret1 (.inl rfl) Try.results13 rfl (fun w' h => ⟨gf, rfl, (h.nilV 58 1).swap⟩)
set_option maxHeartbeats 2000000 in
theorem joinI_any (m : Int) (hT : Hp w0 TS (FdCI gf A c rs es) w) (hn : rs.length ≤ 1000000) (hm : -9223372036854775808 ≤ m ∧ m ≤ 9223372036854775807) :
    Calls Try.prog 14 #[.pointer (some ⟨gf, 0, none⟩), .int .i64 m] w fun e w' => (¬ (1 ≤ m ∧ m ≤ 256) ∧ e = .returned (.int .i64 0) ∧ Hp w0 TS (FdCI gf A c rs es) w') ∨
      ((1 ≤ m ∧ m ≤ 256) ∧ ∃ A' c' x, e = .returned (.int .i64 ((rs.length + 1 : Nat) : Int)) ∧ (x.cap : Int) = m ∧ x.buf = [] ∧ x.lost = 0 ∧ Hp w0 TS (FdCI gf A' c' (rs ++ [some x]) es) w') := by
  refine calls_of_X (vs := [_, _]) (M := Hp w0 TS (FdCI gf A c rs es)) Try.func14 rfl Try.ntmps14 rfl hT ?_
  clear hT
  repeat first
    | refine XC_region ?_
    | refine X_nil ?_
    | refine XC_seq ?_
    | refine XT_seq ?_
    | refine Y_res (r_move rfl) rfl ?_
    | refine Y_res (r_assign rfl) rfl ?_
    | refine Y_res (r_lss rfl rfl) rfl ?_
  refine Y_split rfl rfl (fun h1 => ?_) (fun h1 => ?_)
  · repeat first
      | refine XC_region ?_
      | refine X_nil ?_
      | refine XC_condT rfl ?_
      | refine XC_seq ?_
      | refine XT_seq ?_
      | refine XT_then_ret ?_
      | refine XC_ret ?_
      | refine Y_res (r_assign rfl) rfl ?_
      | refine Y_off rfl rfl rfl ?_
      | refine Y_res (r_pickT rfl rfl) rfl ?_
    exact XT_ret1 (.inl rfl) Try.results14 rfl (fun w' h => .inl ⟨by omega, rfl, h⟩)
  repeat first
    | refine X_nil ?_
    | refine XT_seq ?_
    | refine Y_res (r_move rfl) rfl ?_
    | refine Y_res (r_gtr rfl rfl) rfl ?_
    | refine Y_on rfl rfl ?_
    | refine Y_res (r_pickF rfl rfl) rfl ?_
  refine XC_condP rfl (fun h2 => ?_) (fun h2 => ?_)
  · repeat first
      | refine XC_region ?_
      | refine X_nil ?_
      | refine XC_seq ?_
      | refine XT_seq ?_
      | refine XT_then_ret ?_
      | refine XC_ret ?_
      | refine Y_res (r_assign rfl) rfl ?_
    exact XT_ret1 (.inl rfl) Try.results14 rfl (fun w' h => .inl ⟨by omega, rfl, h⟩)
  obtain ⟨m, rfl⟩ : ∃ q : Nat, m = q := ⟨m.toNat, by omega⟩
  unfold FdCI
  repeat first
    | refine XC_seq ?_
    | refine XT_seq ?_
    | refine XC_skip ?_
  refine XC_held 13 (Hp w0 TS [Ch.blk gf [.slice A rs.length c] 57]) rfl drw_hp (fun _ h => h.hd) ?_
  refine TE_reads [0, 1, 2, 3, 4, 5] (by decide +kernel) (by decide +kernel) rfl ?_
  repeat first
    | refine Y_res (r_move rfl) rfl ?_
    | refine Y_res (r_field' rfl) rfl ?_
    | refine Y_res (r_nilCheck rfl) rfl ?_
    | refine Y_res (r_loadB rfl rfl) rfl ?_
  refine XQ_nodeE ?_
  refine TE_one 6 (by decide +kernel) rfl rfl ?_
  refine X_makeChan (m := m) Try.underlying59 rfl rfl (by omega) (by omega) rfl ?_
  intro gc hgc
  repeat first
    | refine X_nil ?_
    | refine XT_only ?_
  refine XT_nodeE (fun _ h => h.tail.hd) ?_
  refine TE_one 7 (by decide +kernel) rfl rfl ?_
  refine Y_res (r_buildX (v := .agg [Value.chan (some gc), .int .i64 0].toArray) rfl (fun w => by kernel_rfl)) rfl ?_
  repeat first
    | refine X_nil ?_
    | refine XT_only ?_
  refine XT_nodeE (fun _ h => h.tail.hd) ?_
  refine TE_one 8 (by decide +kernel) rfl rfl ?_
  refine X_boxA rfl rfl ?_
  intro gr hgr
  repeat first
    | refine X_nil ?_
    | refine XT_only ?_
  refine XT_nodeE (fun _ h => h.tail.tail.hd) ?_
  refine TE_one 9 (by decide +kernel) rfl rfl ?_
  refine X_buildV rfl rfl (fun u hu => by simp at hu; rw [hu]; rfl) rfl (by simp) rfl (fun g9 hg9 => ?_)
  repeat first
    | refine X_nil ?_
    | refine XT_only ?_
  refine XT_nodeE (fun _ h => h.tail.tail.tail.hd) ?_
  refine TE_one 10 (by decide +kernel) rfl rfl ?_
  refine X_appendV (s := 1) rfl rfl (fun w_ hM => rdv_blk (r := []) hM.head (List.append_nil _).symm rfl (Nat.le_refl 1) (by decide)) (fun u hu => by simp at hu; rw [hu]; rfl) rfl (by decide) rfl rfl (by omega) (by omega) rfl ?_
  intro A4 c4
  repeat first
    | refine X_nil ?_
    | refine XT_only ?_
  refine XT_nodeE (fun _ h => h.tail.tail.tail.hd) ?_
  refine TE_reads [11, 12] (by decide +kernel) (by decide +kernel) rfl ?_
  repeat first
    | refine Y_res (r_field' rfl) rfl ?_
    | refine Y_res (r_nilCheck rfl) rfl ?_
  refine XQ_nodeE ?_
  refine TE_tail 13 (by decide +kernel) rfl rfl ?_
  repeat first
    | refine X_nil ?_
    | refine XT_only ?_
    | refine X_storeB rfl rfl rfl (by simp) ?_
  refine XT_nodeW (TN_end (by decide +kernel) ?_)
  repeat first
    | refine XC_region ?_
    | refine X_nil ?_
    | refine XC_seq ?_
    | refine XT_seq ?_
    | refine XC_ret ?_
    | refine Y_res (r_move rfl) rfl ?_
    | refine Y_res (r_assign rfl) rfl ?_
    | refine Y_res (r_len rfl) rfl ?_
    | refine Y_res (r_field' rfl) rfl ?_
    | refine Y_res (r_nilCheck rfl) rfl ?_
    | refine Y_res (r_loadB rfl rfl) rfl ?_
  refine XT_ret1 (.inl rfl) Try.results14 rfl (fun w' h => .inr ⟨by omega, A4, c4, ⟨gr, gc, m, 0, 0, 0, []⟩, rfl, rfl, rfl, rfl, ?_⟩)
  have e1 : (rs ++ [some (⟨gr, gc, m, 0, 0, 0, []⟩ : Rd)]).length = rs.length + 1 := by simp
  have e2 : (rs ++ [some (⟨gr, gc, m, 0, 0, 0, []⟩ : Rd)]).flatMap rdCI = rs.flatMap rdCI ++ [Ch.chn gc m [] 0 0, Ch.blk gr [.chan (some gc), .int .i64 0] 61] := by rw [List.flatMap_append]; rfl
  try unfold FdCI
  rw [e1, e2, List.map_append, List.append_assoc]
  have h2 : Hp w0 TS ([Ch.chn gc m [] 0 0, Ch.blk gr [.chan (some gc), .int .i64 0] 61] ++ ((Ch.blk gf [.slice A4 (rs.length + 1) c4] 57 :: Ch.sv A4 c4 58 1 (rs.length + 1) (rs.map rdV ++ [.pointer (some ⟨gr, 0, none⟩)]) :: rs.flatMap rdCI) ++ es)) w' := h.tail.swap
  exact Hp.of_perm h2 (List.perm_append_comm_assoc _ _ _)
end
end Go.Proofs.Ytfkhdhdbfejbpaa.Fd
