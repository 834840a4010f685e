/- FeedAlone, walked: true at every input. -/
import Derived.Test.YtfkhdhdbfejbpaaNFdI
import Derived.Test.YtfkhdhdbfejbpaaNPlBs
namespace Go.Proofs.Ytfkhdhdbfejbpaa.Fd
open Go Go.RowKit Go.Proofs.Ytfkhdhdbfejbpaa.MX Go.Proofs.Ytfkhdhdbfejbpaa.PFd Go.Proofs.Ytfkhdhdbfejbpaa.NPl
set_option linter.unusedVariables false
set_option linter.unusedSimpArgs false
set_option linter.unusedVariables false
section
variable {w w0 : World} {TS : Nat → Prop} {es fs : List Ch} {gf c gf' c' : Nat} {A A' : Option Addr} {rs rs' : List (Option Rd)}
theorem fd_app : FdCI gf A c rs es = FdCI gf A c rs [] ++ es := by simp [FdCI]
/-- Two feeds. -/
theorem fd_swap (h : Hp w0 TS (FdCI gf A c rs (FdCI gf' A' c' rs' es)) w) : Hp w0 TS (FdCI gf' A' c' rs' (FdCI gf A c rs es)) w := by
  rw [fd_app, fd_app (es := es)] at h
  rw [fd_app, fd_app (es := es)]
  exact h.of_perm (List.perm_append_comm_assoc _ _ _)
end
/-- Two readers alike: the same in the box, as many lost, as many places; the first reader of the one is right. -/
structure Al (n : Nat) (x y z : Rd) : Prop where
  ox : x.Ok
  oy : y.Ok
  oz : z.Ok
  cp : y.cap = z.cap
  bf : y.buf = z.buf
  lo : y.lost = z.lost
  l1 : x.lost ≤ n
  l2 : y.lost ≤ n
  it : ∀ v ∈ y.buf, ∃ k : Int, v = .int .i64 k
theorem putOk {x : Rd} (h : x.Ok) (v : Value) (hl : x.lost + 1 ≤ 1000000000) : (x.put v).Ok := ⟨by rw [Rd.put_cap]; exact h.cp, by rw [Rd.put_cap]; exact Rd.put_len h v, by have := (Rd.put_lost x v).2; omega⟩
theorem Al.put {n : Nat} {x y z : Rd} (h : Al n x y z) (hn : n ≤ 1000) (k : Int) : Al (n + 1) (x.put (.int .i64 k)) (y.put (.int .i64 k)) (z.put (.int .i64 k)) := by
  have h1 := h.l1
  have h2 := h.l2
  have h3 := h.lo
  have e : (y.put (.int .i64 k)).buf = (z.put (.int .i64 k)).buf ∧ (y.put (.int .i64 k)).lost = (z.put (.int .i64 k)).lost := by
    unfold Rd.put
    rw [h.bf, h.cp, h.lo]
    split <;> exact ⟨rfl, rfl⟩
  refine ⟨putOk h.ox _ (by omega), putOk h.oy _ (by omega), putOk h.oz _ (by omega), by rw [Rd.put_cap, Rd.put_cap]; exact h.cp, e.1, e.2, by have := (Rd.put_lost x (.int .i64 k)).2; omega, by have := (Rd.put_lost y (.int .i64 k)).2; omega, fun v hv => ?_⟩
  unfold Rd.put at hv
  split at hv
  · rcases List.mem_append.1 hv with hv | hv
    · exact h.it v hv
    · exact ⟨k, List.mem_singleton.1 hv⟩
  · rcases List.mem_append.1 hv with hv | hv
    · exact h.it v (List.mem_of_mem_tail hv)
    · exact ⟨k, List.mem_singleton.1 hv⟩
/-- Behind a Take. -/
def Rd.took (x : Rd) : Rd := match x.buf with
  | [] => x
  | v :: t => { x with buf := t, r := x.r + 1 }
theorem took_ok {x : Rd} (h : x.Ok) : (Rd.took x).Ok ∧ (Rd.took x).lost = x.lost ∧ (Rd.took x).cap = x.cap := by
  have h1 := h.le
  have h2 := h.cp
  have h3 := h.lo
  unfold Rd.took
  cases hb : x.buf with
  | nil => exact ⟨h, rfl, rfl⟩
  | cons v t => rw [hb] at h1; exact ⟨⟨h2, by dsimp only; simp at h1; omega, h3⟩, rfl, rfl⟩
theorem take_at {rs : List (Option Rd)} {k : Nat} {x : Rd} (h : rs[k]? = some (some x)) : takeO rs ((k : Int) + 1) = (rs.set k (some (Rd.took x)), x.buf.head?) := by
  have hk : k < rs.length := (List.getElem?_eq_some_iff.1 h).1
  have hf : findO rs ((k : Int) + 1) = some x := by rw [findO_in hk, List.getD_eq_getElem?_getD, h]; rfl
  cases hb : x.buf with
  | nil =>
    rw [takeO_nil hf hb]
    have e : Rd.took x = x := by simp only [Rd.took, hb]
    rw [e, set_self h]
    rfl
  | cons v t =>
    rw [takeO_cons hf hb, show ((k : Int) + 1 - 1).toNat = k by omega]
    have e : Rd.took x = { x with buf := t, r := x.r + 1 } := by simp only [Rd.took, hb]
    rw [e]
    rfl
theorem Al.take1 {n : Nat} {x y z : Rd} (h : Al n x y z) : Al n (Rd.took x) y z := by
  obtain ⟨h1, h2, h3⟩ := took_ok h.ox
  exact ⟨h1, h.oy, h.oz, h.cp, h.bf, h.lo, by rw [h2]; exact h.l1, h.l2, h.it⟩
theorem Al.take2 {n : Nat} {x y z : Rd} (h : Al n x y z) : Al n x (Rd.took y) (Rd.took z) := by
  obtain ⟨h1, h2, h3⟩ := took_ok h.oy
  obtain ⟨k1, k2, k3⟩ := took_ok h.oz
  refine ⟨h.ox, h1, k1, by rw [h3, k3]; exact h.cp, ?_, by rw [h2, k2]; exact h.lo, h.l1, by rw [h2]; exact h.l2, fun v hv => ?_⟩
  · have := h.bf
    unfold Rd.took
    rw [← this]
    cases y.buf with
    | nil => exact this
    | cons v t => rfl
  · refine h.it v ?_
    unfold Rd.took at hv
    split at hv
    · exact hv
    · rename_i u t hb
      rw [hb]
      exact List.mem_cons_of_mem _ hv
set_option maxRecDepth 100000 in
set_option maxHeartbeats 4000000 in
theorem alone_law (l : List Int) (A : Option Addr) (c : Nat) (ks : List Bool) (K : Option Addr) (kc : Nat) (m : Int) (w : World) (hr : Rds w A c .i64 l) (hwf : ∀ n ∈ l, (Lit.int .i64 n).wf = true) (hks : shBs.has w [.slice K ks.length kc] (K, kc, ks)) (hm : (Lit.int .i64 m).wf = true) :
    Calls Try.prog 4 #[.slice A l.length c, .slice K ks.length kc, .int .i64 m] w fun e w' => e = .returned (.bool true) ∧ Chg (fun _ => False) w w' := by
  have hm64 := wf64 hm
  have hkd := bs_rdv hks
  have hkl := hkd.le
  have hkc := hkd.cap
  have hle := hr.le
  have hcap := hr.cap
  clear hks
  refine calls_of_X (Rr := Says w (.bool true)) (vs := [_, _, _]) (M := Hp w (fun _ => False) []) Try.func4 rfl Try.ntmps4 rfl (Hp.nil _ _) ?_
  repeat first
    | refine XC_region ?_
    | refine X_nil ?_
    | refine XC_condF rfl ?_
    | refine XC_seq ?_
    | refine XT_seq ?_
    | refine XC_skip ?_
    | refine Y_res (r_move rfl) rfl ?_
    | refine Y_res (r_assign rfl) rfl ?_
    | refine Y_res (r_gtr rfl rfl) rfl ?_
    | refine Y_res (r_notB rfl) rfl ?_
    | refine Y_res (r_len rfl) rfl ?_
    | refine Y_says (g := 6) rfl rfl (fun w1 hM => anchor_any w1) ?_
  refine Y_split rfl rfl (fun h1 => ?_) (fun h1 => ?_)
  · repeat first
      | refine XC_region ?_
      | refine X_nil ?_
      | refine XC_condT rfl ?_
      | refine XC_seq ?_
      | refine XT_seq ?_
      | refine XT_then_ret ?_
      | refine XC_ret ?_
      | refine Y_res (r_move rfl) rfl ?_
      | refine Y_res (r_assign rfl) rfl ?_
      | refine Y_off rfl rfl rfl ?_
      | refine Y_res (r_pickT rfl rfl) rfl ?_
    exact XT_says (.inl rfl) Try.results4 rfl rfl
  repeat first
    | refine Y_res (r_move rfl) rfl ?_
    | refine Y_res (r_lss rfl rfl) rfl ?_
    | refine Y_on rfl rfl ?_
    | refine Y_res (r_len rfl) rfl ?_
    | refine Y_res (r_pickF rfl rfl) rfl ?_
  refine Y_split rfl rfl (fun h2 => ?_) (fun h2 => ?_)
  · repeat first
      | refine XC_region ?_
      | refine X_nil ?_
      | refine XC_condT rfl ?_
      | refine XC_seq ?_
      | refine XT_seq ?_
      | refine XT_then_ret ?_
      | refine XC_ret ?_
      | refine Y_res (r_move rfl) rfl ?_
      | refine Y_res (r_assign rfl) rfl ?_
      | refine Y_off rfl rfl rfl ?_
      | refine Y_res (r_pickT rfl rfl) rfl ?_
    exact XT_says (.inl rfl) Try.results4 rfl rfl
  repeat first
    | refine Y_res (r_move rfl) rfl ?_
    | refine Y_res (r_lss rfl rfl) rfl ?_
    | refine Y_on rfl rfl ?_
    | refine Y_res (r_pickF rfl rfl) rfl ?_
  refine Y_split rfl rfl (fun h3 => ?_) (fun h3 => ?_)
  · repeat first
      | refine XC_region ?_
      | refine X_nil ?_
      | refine XC_condT rfl ?_
      | refine XC_seq ?_
      | refine XT_seq ?_
      | refine XT_then_ret ?_
      | refine XC_ret ?_
      | refine Y_res (r_assign rfl) rfl ?_
      | refine Y_off rfl rfl rfl ?_
      | refine Y_res (r_pickT rfl rfl) rfl ?_
    exact XT_says (.inl rfl) Try.results4 rfl rfl
  repeat first
    | refine X_nil ?_
    | refine XT_seq ?_
    | refine Y_res (r_move rfl) rfl ?_
    | refine Y_res (r_gtr rfl rfl) rfl ?_
    | refine Y_on rfl rfl ?_
    | refine Y_res (r_pickF rfl rfl) rfl ?_
  refine XC_condP rfl (fun h4 => ?_) (fun h4 => ?_)
  · repeat first
      | refine XC_region ?_
      | refine X_nil ?_
      | refine XC_seq ?_
      | refine XT_seq ?_
      | refine XT_then_ret ?_
      | refine XC_ret ?_
      | refine Y_res (r_assign rfl) rfl ?_
    exact XT_says (.inl rfl) Try.results4 rfl rfl
  obtain ⟨P, rfl⟩ : ∃ q : Nat, m = q := ⟨m.toNat, by omega⟩
  repeat first
    | refine XC_region ?_
    | refine XC_seq ?_
    | refine XT_seq ?_
    | refine XC_skip ?_
  refine X_call (g := 13) rfl rfl (fun w1 q1 => (newI_any q1).mono ?_)
  rintro e w2 ⟨gf, rfl, q2⟩
  refine ⟨_, rfl, _, q2, ?_⟩
  clear q1 q2
  skip
  refine X_call (g := 13) rfl rfl (fun w1 q1 => (newI_any q1).mono ?_)
  rintro e w2 ⟨gg, rfl, q2⟩
  refine ⟨_, rfl, _, fd_swap q2, ?_⟩
  clear q1 q2
  repeat first
    | refine XC_region ?_
    | refine X_nil ?_
    | refine XC_condF rfl ?_
    | refine XC_seq ?_
    | refine XT_seq ?_
    | refine XC_skip ?_
    | refine Y_res (r_move rfl) rfl ?_
    | refine Y_res (r_assign rfl) rfl ?_
    | refine Y_res (r_eqlNil rfl rfl) rfl ?_
    | refine Y_on rfl rfl ?_
    | refine Y_res (r_pickF rfl rfl) rfl ?_
  refine X_call (g := 14) rfl rfl (fun w1 q1 => (joinI_any 7 q1 (by simp) (by decide)).mono ?_)
  rintro e w2 (⟨hbad, _⟩ | ⟨_, A1, c1, x, rfl, k1, k2, k3, q2⟩)
  · exact absurd (by decide) hbad
  refine ⟨_, rfl, _, q2, ?_⟩
  clear q1 q2
  repeat first
    | refine XC_region ?_
    | refine X_nil ?_
    | refine XC_seq ?_
    | refine XT_seq ?_
    | refine Y_res (r_move rfl) rfl ?_
  refine X_call (g := 14) rfl rfl (fun w1 q1 => (joinI_any P q1 (by simp) (by omega)).mono ?_)
  rintro e w2 (⟨hbad, _⟩ | ⟨_, A2, c2, y, rfl, y1, y2, y3, q2⟩)
  · exact absurd (by omega) hbad
  refine ⟨_, rfl, _, fd_swap q2, ?_⟩
  clear q1 q2
  repeat first
    | refine XC_region ?_
    | refine X_nil ?_
    | refine XC_seq ?_
    | refine XT_seq ?_
    | refine Y_res (r_move rfl) rfl ?_
  refine X_call (g := 14) rfl rfl (fun w1 q1 => (joinI_any P q1 (by simp) (by omega)).mono ?_)
  rintro e w2 (⟨hbad, _⟩ | ⟨_, A3, c3, z, rfl, z1, z2, z3, q2⟩)
  · exact absurd (by omega) hbad
  refine ⟨_, rfl, _, fd_swap q2, ?_⟩
  clear q1 q2
  have hA0 : Al 0 x y z := ⟨⟨by omega, by rw [k2]; simp, by omega⟩, ⟨by omega, by rw [y2]; simp, by omega⟩, ⟨by omega, by rw [z2]; simp, by omega⟩, by omega, by rw [y2, z2], by rw [y3, z3], by omega, by omega, fun v hv => by rw [y2] at hv; cases hv⟩
  clear k1 k2 k3 y1 y2 y3 z1 z2 z3
  rw [show ([] ++ [some x]) ++ [some y] = [some x, some y] from rfl, show [] ++ [some z] = [some z] from rfl]
  repeat first
    | refine XC_region ?_
    | refine X_nil ?_
    | refine XC_seq ?_
    | refine XT_seq ?_
    | refine XC_block ?_
    | refine Y_res (r_move rfl) rfl ?_
    | refine Y_res (r_len rfl) rfl ?_
  refine XC_loop (ι := Nat × Rd × Rd × Rd) (fun j => j.1 ≤ l.length ∧ Al j.1 j.2.1 j.2.2.1 j.2.2.2) (fun j => [(1, .slice K ks.length kc), (7, .pointer (some ⟨gf, 0, none⟩)), (8, .pointer (some ⟨gg, 0, none⟩)), (51, .slice A l.length c), (52, .int .i64 l.length), (53, .int .i64 j.1)])
    (fun j => Hp w (fun _ => False) (FdCI gf A2 c2 [some j.2.1, some j.2.2.1] (FdCI gg A3 c3 [some j.2.2.2] []))) (fun j => l.length - j.1) (0, x, y, z) ⟨Nat.zero_le _, hA0⟩ ⟨rfl, rfl, rfl, rfl, rfl, rfl, trivial⟩ (fun _ h => h) ?_
  clear hA0
  clear x y z
  rintro ⟨k, x, y, z⟩ ⟨hk, hA⟩
  dsimp only at hk hA ⊢
  repeat first
    | refine XC_region ?_
    | refine X_nil ?_
    | refine XC_seq ?_
    | refine XT_seq ?_
    | refine Y_res (r_lss rfl rfl) rfl ?_
  refine XC_condP rfl (fun hlt => ?_) (fun hge => ?_)
  · have hk2 : k < l.length := by omega
    have hkk : k < ks.length := by omega
    have hv : (ks.map Value.bool)[k]? = some (.bool (ks.getD k false)) := by rw [List.getElem?_map, List.getD_eq_getElem?_getD, List.getElem?_eq_getElem hkk]; rfl
    have hnw := hwf (l.getD k 0) (by rw [List.getD_eq_getElem?_getD, List.getElem?_eq_getElem hk2]; exact List.getElem_mem hk2)
    have hn64 := wf64 hnw
    have hA2 := hA.put (by omega) (l.getD k 0)
    have ok1 : allOk [some x, some y] := fun q hq => by
      simp only [List.mem_cons, List.not_mem_nil, or_false, Option.some.injEq] at hq
      rcases hq with rfl | rfl
      · exact hA.ox
      · exact hA.oy
    have ok2 : allOk [some z] := fun q hq => by
      obtain rfl : q = z := Option.some.inj (List.mem_singleton.1 hq)
      exact hA.oz
    repeat first
      | refine XC_region ?_
      | refine X_nil ?_
      | refine XC_seq ?_
      | refine XT_seq ?_
      | refine XC_block ?_
      | refine XC_skip ?_
      | refine Y_res (r_move rfl) rfl ?_
      | refine Y_res (r_assign rfl) rfl ?_
      | refine Y_res (r_indexR rfl rfl (by assumption) (by omega) (by omega)) rfl ?_
      | refine Y_res (r_loadR rfl (by assumption) (by first | exact old_false | assumption) (by omega)) rfl ?_
    refine X_call (g := 15) rfl rfl (fun w1 q1 => (tellI_any (.int .i64 (l.getD k 0)) q1 ok1 (by simp)).mono ?_)
    rintro e w2 ⟨rfl, q2⟩
    refine ⟨_, rfl, _, fd_swap q2, ?_⟩
    clear q1 q2
    repeat first
      | refine XC_region ?_
      | refine X_nil ?_
      | refine XC_seq ?_
      | refine XT_seq ?_
      | refine Y_res (r_move rfl) rfl ?_
    refine X_call (g := 15) rfl rfl (fun w1 q1 => (tellI_any (.int .i64 (l.getD k 0)) q1 ok2 (by simp)).mono ?_)
    rintro e w2 ⟨rfl, q2⟩
    refine ⟨_, rfl, _, fd_swap q2, ?_⟩
    clear q1 q2 ok1 ok2
    rw [show [some x, some y].map (putO (.int .i64 (l.getD k 0))) = [some (x.put (.int .i64 (l.getD k 0))), some (y.put (.int .i64 (l.getD k 0)))] from rfl, show [some z].map (putO (.int .i64 (l.getD k 0))) = [some (z.put (.int .i64 (l.getD k 0)))] from rfl]
    clear hA
    generalize x.put (.int .i64 (l.getD k 0)) = x1 at *
    generalize y.put (.int .i64 (l.getD k 0)) = y1 at *
    generalize z.put (.int .i64 (l.getD k 0)) = z1 at *
    repeat first
      | refine XC_region ?_
      | refine X_nil ?_
      | refine XC_seq ?_
      | refine XT_seq ?_
      | refine Y_res (r_move rfl) rfl ?_
      | refine Y_res (r_indexRv rfl rfl hkd hkk (by omega)) rfl ?_
      | refine Y_res (r_loadRv rfl hkd old_false hv) rfl ?_
    refine XC_mid (ι := Rd) (fun x2 => Al (k + 1) x2 y1 z1) (fun _ => [(1, .slice K ks.length kc), (7, .pointer (some ⟨gf, 0, none⟩)), (8, .pointer (some ⟨gg, 0, none⟩)), (10, .int .i64 (l.getD k 0)), (51, .slice A l.length c), (52, .int .i64 l.length), (53, .int .i64 k)])
      (fun x2 => Hp w (fun _ => False) (FdCI gf A2 c2 [some x2, some y1] (FdCI gg A3 c3 [some z1] []))) ?_ ?_
    · refine XC_cond rfl (fun hb => ?_) (fun hb => ?_)
      · repeat first
          | refine XC_region ?_
          | refine Y_res (r_move rfl) rfl ?_
        have t1 : takeO [some x1, some y1] 1 = ([some (Rd.took x1), some y1], x1.buf.head?) := take_at (k := 0) rfl
        refine X_call (g := 16) rfl rfl (fun w1 q1 => (takeI_any 1 q1 (by decide)).mono ?_)
        rintro e w2 ⟨rfl, q2⟩
        rw [t1] at q2
        refine ⟨_, rfl, _, q2, ?_⟩
        clear q1 q2
        repeat first
          | refine X_nil ?_
        exact XT_mid (Rd.took x1) hA2.take1 ⟨rfl, rfl, rfl, rfl, rfl, rfl, rfl, trivial⟩ (fun _ h => h)
      · repeat first
          | refine XC_skip ?_
        exact XT_mid x1 hA2 ⟨rfl, rfl, rfl, rfl, rfl, rfl, rfl, trivial⟩ (fun _ h => h)
    clear hA2
    clear x1
    intro x1 hA2
    try dsimp only
    repeat first
      | refine XC_region ?_
      | refine X_nil ?_
      | refine XC_seq ?_
      | refine XT_seq ?_
      | refine Y_res (r_move rfl) rfl ?_
      | refine Y_res (r_eql rfl rfl) rfl ?_
      | refine Y_res (r_rem' rfl rfl (by decide)) rfl ?_
    refine XC_condP rfl (fun h5 => ?_) (fun h5 => ?_)
    · have t1 : takeO [some x1, some y1] 2 = ([some x1, some (Rd.took y1)], y1.buf.head?) := take_at (k := 1) rfl
      have t2 : takeO [some z1] 1 = ([some (Rd.took z1)], y1.buf.head?) := by rw [hA2.bf]; exact take_at (k := 0) rfl
      obtain ⟨n, hn⟩ : ∃ n : Int, y1.buf.head?.getD (.int .i64 0) = .int .i64 n := by
        cases hb : y1.buf with
        | nil => exact ⟨0, rfl⟩
        | cons v t => exact hA2.it v (by rw [hb]; exact List.mem_cons_self ..)
      repeat first
        | refine XC_region ?_
        | refine XC_seq ?_
        | refine Y_res (r_move rfl) rfl ?_
      refine X_call (g := 16) rfl rfl (fun w1 q1 => (takeI_any 2 q1 (by decide)).mono ?_)
      rintro e w2 ⟨rfl, q2⟩
      rw [t1] at q2 ⊢
      dsimp only at q2 ⊢
      rw [hn]
      refine ⟨_, rfl, _, fd_swap q2, ?_⟩
      clear q1 q2
      repeat first
        | refine XC_region ?_
        | refine X_nil ?_
        | refine XC_seq ?_
        | refine XT_seq ?_
        | refine Y_res (r_move rfl) rfl ?_
        | refine Y_res (r_assign rfl) rfl ?_
        | refine Y_res (r_extract rfl rfl) rfl ?_
      refine X_call (g := 16) rfl rfl (fun w1 q1 => (takeI_any 1 q1 (by decide)).mono ?_)
      rintro e w2 ⟨rfl, q2⟩
      rw [t2] at q2 ⊢
      dsimp only at q2 ⊢
      rw [hn]
      refine ⟨_, rfl, _, fd_swap q2, ?_⟩
      clear q1 q2
      generalize y1.buf.head?.isSome = bb
      repeat first
        | refine XC_region ?_
        | refine X_nil ?_
        | refine XC_seq ?_
        | refine XT_seq ?_
        | refine Y_res (r_move rfl) rfl ?_
        | refine Y_res (r_assign rfl) rfl ?_
        | refine Y_res (r_neq rfl rfl) rfl ?_
        | refine Y_res (r_neqB rfl rfl) rfl ?_
        | refine Y_on rfl rfl ?_
        | refine Y_res (r_extract rfl rfl) rfl ?_
        | refine Y_res (r_pickF rfl rfl) rfl ?_
        | refine Y_splitF rfl rfl (fun h => h rfl) ?_
      refine XC_cond rfl (fun hx => absurd hx (by simp)) (fun _ => ?_)
      repeat first
        | refine XC_region ?_
        | refine X_nil ?_
        | refine XT_seq ?_
        | refine XT_block_normal ?_
        | refine XC_skip ?_
        | refine Y_res (r_move rfl) rfl ?_
        | refine Y_res (r_add64 rfl rfl (by omega)) rfl ?_
      exact XT_round (k + 1, x1, Rd.took y1, Rd.took z1) ⟨by dsimp only; omega, hA2.take2⟩ (by dsimp only; omega) ⟨rfl, rfl, rfl, rfl, rfl, rfl, trivial⟩ (fun _ h => h)
    · repeat first
        | refine XC_region ?_
        | refine X_nil ?_
        | refine XT_seq ?_
        | refine XT_block_normal ?_
        | refine XC_skip ?_
        | refine Y_res (r_move rfl) rfl ?_
        | refine Y_res (r_add64 rfl rfl (by omega)) rfl ?_
      exact XT_round (k + 1, x1, y1, z1) ⟨by dsimp only; omega, hA2⟩ (by dsimp only; omega) ⟨rfl, rfl, rfl, rfl, rfl, rfl, trivial⟩ (fun _ h => h)
  · repeat first
      | refine XC_region ?_
      | refine XC_seq ?_
      | refine XT_seq ?_
      | refine XT_block_same rfl ?_
      | refine XT_then_exit ?_
      | refine XC_exit ?_
      | refine Y_res (r_move rfl) rfl ?_
    refine X_call (g := 17) rfl rfl (fun w1 q1 => (waitsI_any 2 q1 (by decide)).mono ?_)
    rintro e w2 ⟨rfl, q2⟩
    refine ⟨_, rfl, _, fd_swap q2, ?_⟩
    clear q1 q2
    rw [show findO [some x, some y] 2 = some y from rfl]
    try dsimp only
    repeat first
      | refine Y_res (r_move rfl) rfl ?_
    refine X_call (g := 17) rfl rfl (fun w1 q1 => (waitsI_any 1 q1 (by decide)).mono ?_)
    rintro e w2 ⟨rfl, q2⟩
    refine ⟨_, rfl, _, fd_swap q2, ?_⟩
    clear q1 q2
    rw [show findO [some z] 1 = some z from rfl]
    try dsimp only
    repeat first
      | refine Y_res (r_move rfl) rfl ?_
      | refine Y_res (r_eql rfl rfl) rfl ?_
      | refine Y_on rfl rfl ?_
      | refine Y_splitT rfl rfl (by rw [hA.bf]) ?_
    refine X_call (g := 18) rfl rfl (fun w1 q1 => (lostI_any 2 q1 (by decide)).mono ?_)
    rintro e w2 ⟨rfl, q2⟩
    refine ⟨_, rfl, _, fd_swap q2, ?_⟩
    clear q1 q2
    rw [show findO [some x, some y] 2 = some y from rfl]
    try dsimp only
    repeat first
      | refine Y_res (r_move rfl) rfl ?_
      | refine Y_on rfl rfl ?_
    refine X_call (g := 18) rfl rfl (fun w1 q1 => (lostI_any 1 q1 (by decide)).mono ?_)
    rintro e w2 ⟨rfl, q2⟩
    refine ⟨_, rfl, _, fd_swap q2, ?_⟩
    clear q1 q2
    rw [show findO [some z] 1 = some z from rfl]
    try dsimp only
    repeat first
      | refine X_nil ?_
      | refine XT_seq ?_
      | refine XC_ret ?_
      | refine Y_res (r_assign rfl) rfl ?_
      | refine Y_res (r_eql rfl rfl) rfl ?_
      | refine Y_on rfl rfl ?_
      | refine Y_res (r_pickT rfl rfl) rfl ?_
    exact XT_says (.inl rfl) Try.results4 rfl (by rw [hA.lo]; simp)
end Go.Proofs.Ytfkhdhdbfejbpaa.Fd
