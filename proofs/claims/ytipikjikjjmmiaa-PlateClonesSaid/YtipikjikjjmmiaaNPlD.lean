/- One step of a play, done by both disks: walked. -/
import Derived.Test.YtipikjikjjmmiaaNPlC
namespace Go.Proofs.Ytipikjikjjmmiaa.NPl
open Go Go.RowKit Go.Proofs.Ytipikjikjjmmiaa.MX Go.Proofs.Ytipikjikjjmmiaa.NSame
set_option linter.unusedVariables false
set_option linter.unusedSimpArgs false
set_option linter.unusedVariables false
section
variable {g g' : Nat} {a : Ad} {a' : Rd} {p q : Pl} {si : List It} {li : List (Nat × It)} {w w0 : World} {TS : Nat → Prop} {es : List Ch} {x y : Ch}
theorem pPRo (g a p g' a' q si li) (x : Ch) (es : List Ch) : (PlC g a p (RfC g' a' q si li (x :: es))).Perm (x :: PlC g a p (RfC g' a' q si li es)) := List.perm_middle (l₁ := PlC g a p [] ++ RfC g' a' q si li [])
theorem pPRo2 (g a p g' a' q si li) (x y : Ch) (es : List Ch) : (PlC g a p (RfC g' a' q si li (x :: y :: es))).Perm (x :: y :: PlC g a p (RfC g' a' q si li es)) := (pPRo g a p g' a' q si li x (y :: es)).trans (List.Perm.cons _ (pPRo g a p g' a' q si li y es))
theorem pRP (g a p g' a' q si li) (es : List Ch) : (RfC g' a' q si li (PlC g a p es)).Perm (PlC g a p (RfC g' a' q si li es)) := List.perm_append_comm_assoc (RfC g' a' q si li []) (PlC g a p []) es
theorem fill_hd (c : Int) (n : Nat) (hn : n ≤ 100000) (hc : 0 ≤ c ∧ c < 256) (hT : Hp w0 TS es w) : Calls Try.prog 11 #[.int .u8 c, .int .i64 n] w fun e w' => ∃ B cap, e = .returned (.slice B n cap) ∧ Hp w0 TS (Ch.sl B cap 5 .u8 (List.replicate n c) :: es) w' :=
  (fill_any c n w hn hc).mono fun e w' h => by
    obtain ⟨v, rfl, ⟨B, cap, rfl, h1, h2⟩, hc⟩ := h
    exact ⟨B, cap, by rw [List.length_replicate], hT.add hc h1 h2⟩
theorem write_rp (i c : Int) (n : Nat) (B : Option Addr) (cap : Nat) (hp : PlOk p) (hl : p.loose.length ≤ 10000) (hT : Hp w0 TS (PlC g a p es) w) (hm : Ch.sl B cap 5 .u8 (List.replicate n c) ∈ es) :
    Calls Try.prog 10 #[.pointer (some ⟨g, 0, none⟩), .int .i64 i, .slice B n cap] w fun e w' => ∃ a', e = .returned (.int .i64 (writeP p i (List.replicate n c)).2) ∧ Hp w0 TS (PlC g a' (writeP p i (List.replicate n c)).1 es) w' := by
  have h := write_any i (List.replicate n c) B cap hT hp hl (fun cs w1 h1 => rds_sl (h1.sat _ (List.mem_append_right _ hm)))
  rwa [List.length_replicate] at h
theorem rwrite_rp (i c : Int) (n : Nat) (B : Option Addr) (cap : Nat) (hp : PlOk q) (hf : RfOk q si li) (hl : q.loose.length ≤ 10000) (hT : Hp w0 TS (RfC g' a' q si li es) w) (hm : Ch.sl B cap 5 .u8 (List.replicate n c) ∈ es) :
    Calls Try.prog 28 #[.pointer (some ⟨g', 0, none⟩), .int .i64 i, .slice B n cap] w fun e w' => ∃ a' li', e = .returned (.int .i64 (writeP q i (List.replicate n c)).2) ∧ Hp w0 TS (RfC g' a' (writeP q i (List.replicate n c)).1 si li' es) w' ∧ RfOk (writeP q i (List.replicate n c)).1 si li' := by
  have h := rwrite_any i (List.replicate n c) B cap hT hp hf hl (fun cs w1 h1 => rds_sl (h1.sat _ (List.mem_append_right _ hm)))
  rwa [List.length_replicate] at h
def rdP (p : Pl) (i : Int) : List Int := if thereP p i = 0 then p.now.getD i.toNat [] else []
theorem read_u (i : Int) (hT : Hp w0 TS (PlC g a p es) w) (hp : PlOk p) :
    Calls Try.prog 12 #[.pointer (some ⟨g, 0, none⟩), .int .i64 i] w fun e w' => ∃ A cap, e = .returned (.tuple #[.slice A (rdP p i).length cap, .int .i64 (thereP p i)]) ∧ Hp w0 TS (Ch.sl A cap 62 .u8 (rdP p i) :: PlC g a p es) w' := by
  by_cases hn : thereP p i = 0
  · refine (read_ok i hT hp hn).mono ?_
    rintro e w' ⟨b, s, hs, rfl, h⟩
    have hl : s.length = 64 := hp.ns s (List.mem_of_getElem? hs)
    have e1 : rdP p i = s := by rw [rdP, if_pos hn, List.getD_eq_getElem?_getD, hs]; rfl
    rw [e1, hn]
    refine ⟨some ⟨b, 0, none⟩, s.length, by rw [hl], h.conv (sl_ints h.head (by omega)) (fun k hk => ?_)⟩
    obtain rfl := Option.some.inj hk
    rfl
  · refine (read_no i hT hn).mono ?_
    rintro e w' ⟨rfl, h⟩
    have e1 : rdP p i = [] := by rw [rdP, if_neg hn]
    rw [e1]
    exact ⟨none, 0, rfl, h.nilS⟩
theorem rread_u (i : Int) (hT : Hp w0 TS (RfC g' a' q si li es) w) (hp : PlOk q) (hf : RfOk q si li) (hnow : PNow q) :
    Calls Try.prog 25 #[.pointer (some ⟨g', 0, none⟩), .int .i64 i] w fun e w' => ∃ A cap, e = .returned (.tuple #[.slice A (rdP q i).length cap, .int .i64 (thereP q i)]) ∧ Hp w0 TS (Ch.sl A cap 5 .u8 (rdP q i) :: RfC g' a' q si li es) w' := by
  by_cases hn : thereP q i = 0
  · refine (rread_ok i hT hp hf hnow hn).mono ?_
    rintro e w' ⟨b, s, hs, rfl, h⟩
    have hl : s.length = 64 := hp.ns s (List.mem_of_getElem? hs)
    have e1 : rdP q i = s := by rw [rdP, if_pos hn, List.getD_eq_getElem?_getD, hs]; rfl
    rw [e1, hn]
    refine ⟨some ⟨b, 0, none⟩, 64, by rw [hl], ?_⟩
    rw [show Ch.sl (some ⟨b, 0, none⟩) 64 5 .u8 s = Ch.sv (some ⟨b, 0, none⟩) 64 5 1 64 (secC s) by rw [Ch.sl, Ch.sv, hl]; rfl]
    exact h
  · refine (rread_no i hT hn).mono ?_
    rintro e w' ⟨rfl, h⟩
    have e1 : rdP q i = [] := by rw [rdP, if_neg hn]
    rw [e1]
    exact ⟨none, 0, rfl, h.nilS⟩
theorem pnow_op {o : OpD} (h : PNow q) : PNow (opP q o) := by
  unfold opP
  split
  · exact pnow_write h _ _
  split
  · exact h
  split
  · exact pnow_sync h
  split
  · exact pnow_arm h _
  split
  · exact pnow_rev _ _
  · exact h
end
set_option maxRecDepth 100000 in
set_option maxHeartbeats 8000000 in
theorem stepB_any {g g' : Nat} {a : Ad} {a' : Rd} {p q : Pl} {si : List It} {li : List (Nat × It)} {w w0 : World} {es : List Ch} (o : OpD) (hT : Hp w0 (fun _ => False) (PlC g a p (RfC g' a' q si li es)) w) (h2 : Two p q si li) (hl : p.loose.length ≤ 5000) (hl' : q.loose.length ≤ 5000) (hz : 0 ≤ o.2.2.1 ∧ o.2.2.1 ≤ 200) (ho : OpOk w0 o) :
    Calls Try.prog 17 #[.pointer (some ⟨g, 0, none⟩), .pointer (some ⟨g', 0, none⟩), .agg (opC o).toArray] w fun e w' => ∃ a2 a2' si' li' r, e = .returned (.bool r) ∧ (p = q → r = true) ∧ Hp w0 (fun _ => False) (PlC g a2 (opP p o) (RfC g' a2' (opP q o) si' li' es)) w' ∧ Two (opP p o) (opP q o) si' li' := by
  have hop := ok_op h2.po (by omega) ho
  have hoq := ok_op h2.qo (by omega) ho
  have hnw : PNow (opP q o) := pnow_op h2.nw
  have hfin : ∀ {si' li'}, RfOk (opP q o) si' li' → Two (opP p o) (opP q o) si' li' := fun hf => ⟨hop.1, hoq.1, hf, hnw, by rw [hop.2.1, hoq.2.1, h2.nn]⟩
  clear hop hoq hnw
  obtain ⟨kind, at_, sz, fl, ⟨K, kc, ks⟩, u⟩ := o
  dsimp only at hz
  obtain ⟨n, rfl⟩ : ∃ n : Nat, sz = n := ⟨sz.toNat, by omega⟩
  have hat := wf64 ho.at_
  have hfl := wf8 ho.fl
  have hkp := ho.kp
  dsimp only at hat hfl hkp
  clear ho
  refine calls_of_X (vs := [_, _, _]) (M := Hp w0 (fun _ => False) (PlC g a p (RfC g' a' q si li es))) Try.func17 rfl Try.ntmps17 rfl hT ?_
  clear hT
  unfold opC
  repeat first
    | refine XC_region ?_
    | refine XC_seq ?_
  refine X_boxA (vs := [.int .i64 kind, .int .i64 at_, .int .i64 n, .int .u8 fl, .slice K ks.length kc]) rfl rfl (fun go hgo => ?_)
  repeat first
    | refine XC_region ?_
    | refine X_nil ?_
    | refine XC_seq ?_
    | refine XT_seq ?_
    | refine XC_block ?_
    | refine Y_res (r_assign rfl) rfl ?_
    | refine Y_res (r_eql rfl rfl) rfl ?_
    | refine Y_res (r_field' rfl) rfl ?_
    | refine Y_res (r_loadB rfl rfl) rfl ?_
  refine XC_condP rfl (fun h1 => ?_) (fun h1 => ?_)
  · have ep : ∀ p, opP p (kind, at_, (n : Int), fl, (K, kc, ks), u) = (writeP p at_ (List.replicate n fl)).1 := fun p => if_pos h1
    rw [ep, ep] at hfin
    repeat first
      | refine XC_region ?_
      | refine XC_seq ?_
      | refine Y_res (r_field' rfl) rfl ?_
      | refine Y_res (r_loadB rfl rfl) rfl ?_
    refine X_call (g := 11) rfl rfl (fun w1 q1 => (fill_hd fl n (by omega) hfl q1).mono ?_)
    rintro e w2 ⟨B, cap, rfl, q2⟩
    refine ⟨_, rfl, _, q2, ?_⟩
    clear q1 q2
    repeat first
      | refine XC_region ?_
      | refine X_nil ?_
      | refine XC_seq ?_
      | refine XT_seq ?_
      | refine Y_res (r_move rfl) rfl ?_
      | refine Y_res (r_assign rfl) rfl ?_
      | refine Y_res (r_field' rfl) rfl ?_
      | refine Y_res (r_loadB rfl rfl) rfl ?_
    refine X_call (g := 10) rfl rfl (fun w1 q1 => (write_rp at_ fl n B cap h2.po (by omega) (pr_in2 q1.swap) (List.mem_append_right (RfC g' a' q si li []) (.tail _ (.head _)))).mono ?_)
    rintro e w2 ⟨a2, rfl, q2⟩
    refine ⟨_, rfl, _, (pr_out2 q2).swap, ?_⟩
    clear q1 q2
    repeat first
      | refine XC_region ?_
      | refine X_nil ?_
      | refine XC_seq ?_
      | refine XT_seq ?_
      | refine Y_res (r_move rfl) rfl ?_
      | refine Y_res (r_assign rfl) rfl ?_
      | refine Y_res (r_field' rfl) rfl ?_
      | refine Y_res (r_loadB rfl rfl) rfl ?_
    refine X_call (g := 28) rfl rfl (fun w1 q1 => (rwrite_rp at_ fl n B cap h2.qo h2.rf (by omega) (pr_swap (pr_in2 q1.swap)) (List.mem_append_right (PlC g a2 _ []) (.tail _ (.head _)))).mono ?_)
    rintro e w2 ⟨a2', li', rfl, q2, hf⟩
    refine ⟨_, rfl, _, (pr_out2 (rp_swap q2)).swap, ?_⟩
    clear q1 q2
    repeat first
      | refine XC_region ?_
      | refine X_nil ?_
      | refine XC_seq ?_
      | refine XT_seq ?_
      | refine XC_block ?_
      | refine Y_res (r_move rfl) rfl ?_
      | refine Y_res (r_assign rfl) rfl ?_
      | refine Y_res (r_len rfl) rfl ?_
    refine XC_loop (ι := Nat × List Int) (fun j => j.1 ≤ n ∧ j.2.length = n) (fun j => [(7, .slice B n cap), (8, .int .i64 (writeP p at_ (List.replicate n fl)).2), (9, .int .i64 (writeP q at_ (List.replicate n fl)).2), (37, .int .i64 n), (38, .int .i64 j.1)])
      (fun j => Hp w0 (fun _ => False) (Ch.sl B cap 5 .u8 j.2 :: Ch.blk go [.int .i64 kind, .int .i64 at_, .int .i64 n, .int .u8 fl, .slice K ks.length kc] 41 :: PlC g a2 (writeP p at_ (List.replicate n fl)).1 (RfC g' a2' (writeP q at_ (List.replicate n fl)).1 si li' es))) (fun j => n - j.1) (0, List.replicate n fl) ⟨Nat.zero_le _, List.length_replicate⟩ ⟨rfl, rfl, rfl, rfl, rfl, trivial⟩ (fun _ h => h) ?_
    rintro ⟨j, ys⟩ ⟨hj, hy⟩
    dsimp only at hj hy ⊢
    repeat first
      | refine XC_region ?_
      | refine X_nil ?_
      | refine XC_seq ?_
      | refine XT_seq ?_
      | refine Y_res (r_lss rfl rfl) rfl ?_
    refine XC_condP rfl (fun hlt => ?_) (fun hge => ?_)
    · have hj2 : j < n := by omega
      repeat first
        | refine XC_region ?_
        | refine X_nil ?_
        | refine XC_seq ?_
        | refine XT_seq ?_
        | refine XC_block ?_
        | refine XT_block_normal ?_
        | refine XC_skip ?_
        | refine Y_res (r_move rfl) rfl ?_
        | refine Y_res (r_assign rfl) rfl ?_
        | refine Y_res (r_add64 rfl rfl (by omega)) rfl ?_
        | refine Y_res (r_xor rfl rfl) rfl ?_
        | refine Y_res (r_indexS rfl rfl (by omega) (by first | omega | (simp only [List.length_set, List.length_replicate]; omega))) rfl ?_
        | refine Y_res (r_loadI rfl (by first | omega | (simp only [List.length_set, List.length_replicate]; omega))) rfl ?_
        | refine X_storeI rfl rfl (by first | omega | (simp only [List.length_set, List.length_replicate]; omega)) ?_
      exact XT_round (j + 1, _) ⟨by dsimp only; omega, (List.length_set ..).trans hy⟩ (by dsimp only; omega) ⟨rfl, rfl, rfl, rfl, rfl, trivial⟩ (fun _ h => h)
    repeat first
      | refine XC_region ?_
      | refine X_nil ?_
      | refine XC_seq ?_
      | refine XT_seq ?_
      | refine XT_block_ret ?_
      | refine XT_block_same rfl ?_
      | refine XT_then_exit ?_
      | refine XT_then_ret ?_
      | refine XC_exit ?_
      | refine XC_ret ?_
      | refine Y_res (r_move rfl) rfl ?_
      | refine Y_res (r_assign rfl) rfl ?_
      | refine Y_res (r_eql rfl rfl) rfl ?_
    exact XT_ret1 (.inl rfl) Try.results17 rfl (fun w' h => ⟨a2, a2', si, li', _, rfl, fun e => (by rw [e]; exact decide_eq_true rfl), by rw [ep, ep]; exact h.tail.tail, by rw [ep, ep]; exact hfin hf⟩)
  repeat first
    | refine XC_region ?_
    | refine X_nil ?_
    | refine XC_seq ?_
    | refine XT_seq ?_
    | refine Y_res (r_assign rfl) rfl ?_
    | refine Y_res (r_eql rfl rfl) rfl ?_
  refine XC_condP rfl (fun h3 => ?_) (fun h3 => ?_)
  · have ep : ∀ p, opP p (kind, at_, (n : Int), fl, (K, kc, ks), u) = p := fun p => (if_neg h1).trans (if_pos h3)
    rw [ep, ep] at hfin
    repeat first
      | refine XC_region ?_
      | refine XC_seq ?_
      | refine Y_res (r_move rfl) rfl ?_
      | refine Y_res (r_field' rfl) rfl ?_
      | refine Y_res (r_loadB rfl rfl) rfl ?_
    refine X_call (g := 12) rfl rfl (fun w1 q1 => (read_u at_ (pr_in q1) h2.po).mono ?_)
    rintro e w2 ⟨A, cap, rfl, q2⟩
    refine ⟨_, rfl, _, q2.of_perm (List.Perm.cons _ (pPRo g a p g' a' q si li _ es)), ?_⟩
    clear q1 q2
    repeat first
      | refine XC_region ?_
      | refine X_nil ?_
      | refine XC_seq ?_
      | refine XT_seq ?_
      | refine Y_res (r_move rfl) rfl ?_
      | refine Y_res (r_assign rfl) rfl ?_
      | refine Y_res (r_field' rfl) rfl ?_
      | refine Y_res (r_loadB rfl rfl) rfl ?_
      | refine Y_res (r_extract rfl rfl) rfl ?_
    refine X_call (g := 25) rfl rfl (fun w1 q1 => (rread_u at_ (pr_swap (pr_in2 q1)) h2.qo h2.rf h2.nw).mono ?_)
    rintro e w2 ⟨B, cap2, rfl, q2⟩
    refine ⟨_, rfl, _, q2.of_perm (List.Perm.cons _ ((pRP g a p g' a' q si li _).trans (pPRo2 g a p g' a' q si li _ _ es))), ?_⟩
    clear q1 q2
    repeat first
      | refine X_nil ?_
      | refine XC_seq ?_
      | refine XT_seq ?_
      | refine Y_res (r_move rfl) rfl ?_
      | refine Y_res (r_assign rfl) rfl ?_
      | refine Y_res (r_extract rfl rfl) rfl ?_
    refine XC_mid (ι := Bool) (fun r => p = q → r = true) (fun r => [(11, .slice A (rdP p at_).length cap), (15, .bool r)]) (fun _ => Hp w0 (fun _ => False) (Ch.sl B cap2 5 .u8 (rdP q at_) :: Ch.sl A cap 62 .u8 (rdP p at_) :: Ch.blk go [.int .i64 kind, .int .i64 at_, .int .i64 n, .int .u8 fl, .slice K ks.length kc] 41 :: PlC g a p (RfC g' a' q si li es))) ?_ ?_
    · by_cases hee : thereP p at_ = thereP q at_
      · repeat first
          | refine XC_region ?_
          | refine X_nil ?_
          | refine Y_res (r_move rfl) rfl ?_
          | refine Y_res (r_assign rfl) rfl ?_
          | refine Y_res (r_eql rfl rfl) rfl ?_
          | refine Y_on rfl rfl ?_
          | refine Y_res (r_pickT rfl rfl) rfl ?_
          | refine Y_splitT rfl rfl hee ?_
          | refine Y_says (g := 21) rfl rfl (fun w1 hM => same_any (rdP p at_) (rdP q at_) _ _ _ _ w1 (rds_sl hM.tail.head) (rds_sl hM.head)) ?_
        exact XT_mid _ (fun e => by rw [e]; exact decide_eq_true rfl) ⟨rfl, rfl, trivial⟩ (fun _ h => h)
      · repeat first
          | refine XC_region ?_
          | refine X_nil ?_
          | refine Y_res (r_move rfl) rfl ?_
          | refine Y_res (r_assign rfl) rfl ?_
          | refine Y_res (r_eql rfl rfl) rfl ?_
          | refine Y_off rfl rfl rfl ?_
          | refine Y_res (r_pickF rfl rfl) rfl ?_
          | refine Y_splitF rfl rfl hee ?_
        exact XT_mid false (fun e => absurd (by rw [e]) hee) ⟨rfl, rfl, trivial⟩ (fun _ h => h)
    intro r hr
    repeat first
      | refine XC_region ?_
      | refine X_nil ?_
      | refine XC_seq ?_
      | refine XT_seq ?_
      | refine XC_block ?_
      | refine Y_res (r_move rfl) rfl ?_
      | refine Y_res (r_len rfl) rfl ?_
    have hlen : (rdP p at_).length ≤ 100000 := by
      rw [rdP]
      split
      · rw [List.getD_eq_getElem?_getD]
        cases hg : p.now[at_.toNat]? with
        | none => simp
        | some s => have := h2.po.ns s (List.mem_of_getElem? hg); simp; omega
      · simp
    refine XC_loop (ι := Nat × List Int) (fun j => j.1 ≤ (rdP p at_).length ∧ j.2.length = (rdP p at_).length) (fun j => [(11, .slice A (rdP p at_).length cap), (15, .bool r), (76, .int .i64 (rdP p at_).length), (77, .int .i64 j.1)])
      (fun j => Hp w0 (fun _ => False) (Ch.sl B cap2 5 .u8 (rdP q at_) :: Ch.sl A cap 62 .u8 j.2 :: Ch.blk go [.int .i64 kind, .int .i64 at_, .int .i64 n, .int .u8 fl, .slice K ks.length kc] 41 :: PlC g a p (RfC g' a' q si li es))) (fun j => (rdP p at_).length - j.1) (0, rdP p at_) ⟨Nat.zero_le _, rfl⟩ ⟨rfl, rfl, rfl, rfl, trivial⟩ (fun _ h => h) ?_
    rintro ⟨j, ys⟩ ⟨hj, hy⟩
    dsimp only at hj hy ⊢
    repeat first
      | refine XC_region ?_
      | refine X_nil ?_
      | refine XC_seq ?_
      | refine XT_seq ?_
      | refine Y_res (r_lss rfl rfl) rfl ?_
    refine XC_condP rfl (fun hlt => ?_) (fun hge => ?_)
    · have hj2 : j < (rdP p at_).length := by omega
      repeat first
        | refine XC_region ?_
        | refine X_nil ?_
        | refine XC_seq ?_
        | refine XT_seq ?_
        | refine XC_block ?_
        | refine XT_block_normal ?_
        | refine XC_skip ?_
        | refine Y_res (r_move rfl) rfl ?_
        | refine Y_res (r_assign rfl) rfl ?_
        | refine Y_res (r_add64 rfl rfl (by omega)) rfl ?_
        | refine Y_res (r_xor rfl rfl) rfl ?_
        | refine Y_res (r_indexS rfl rfl (by omega) (by first | omega | (simp only [List.length_set, List.length_replicate]; omega))) rfl ?_
        | refine Y_res (r_loadI rfl (by first | omega | (simp only [List.length_set, List.length_replicate]; omega))) rfl ?_
        | refine X_storeI rfl rfl (by first | omega | (simp only [List.length_set, List.length_replicate]; omega)) ?_
      exact XT_round (j + 1, _) ⟨by dsimp only; omega, (List.length_set ..).trans hy⟩ (by dsimp only; omega) ⟨rfl, rfl, rfl, rfl, trivial⟩ (fun _ h => h)
    repeat first
      | refine XC_region ?_
      | refine X_nil ?_
      | refine XC_seq ?_
      | refine XT_seq ?_
      | refine XT_block_ret ?_
      | refine XT_block_same rfl ?_
      | refine XT_then_exit ?_
      | refine XT_then_ret ?_
      | refine XC_exit ?_
      | refine XC_ret ?_
      | refine Y_res (r_move rfl) rfl ?_
      | refine Y_res (r_assign rfl) rfl ?_
    exact XT_ret1 (.inl rfl) Try.results17 rfl (fun w' h => ⟨a, a', si, li, r, rfl, hr, by rw [ep, ep]; exact h.tail.tail.tail, by rw [ep, ep]; exact hfin h2.rf⟩)
  repeat first
    | refine XC_region ?_
    | refine X_nil ?_
    | refine XC_seq ?_
    | refine XT_seq ?_
    | refine Y_res (r_assign rfl) rfl ?_
    | refine Y_res (r_eql rfl rfl) rfl ?_
  refine XC_condP rfl (fun h4 => ?_) (fun h4 => ?_)
  · have ep : ∀ p, opP p (kind, at_, (n : Int), fl, (K, kc, ks), u) = (syncP p).1 := fun p => (if_neg h1).trans ((if_neg h3).trans (if_pos h4))
    rw [ep, ep] at hfin
    repeat first
      | refine XC_region ?_
      | refine XC_seq ?_
      | refine Y_res (r_move rfl) rfl ?_
    refine X_call (g := 20) rfl rfl (fun w1 q1 => (sync_any (pr_in q1) h2.po).mono ?_)
    rintro e w2 ⟨a2, rfl, q2⟩
    refine ⟨_, rfl, _, pr_out q2, ?_⟩
    clear q1 q2
    repeat first
      | refine Y_res (r_move rfl) rfl ?_
    refine X_call (g := 29) rfl rfl (fun w1 q1 => (rsync_any (pr_swap (pr_in q1)) h2.qo h2.rf).mono ?_)
    rintro e w2 ⟨a2', si', li', rfl, q2, hf⟩
    refine ⟨_, rfl, _, pr_out (rp_swap q2), ?_⟩
    clear q1 q2
    repeat first
      | refine X_nil ?_
      | refine XT_seq ?_
      | refine XT_block_ret ?_
      | refine XT_then_ret ?_
      | refine XC_ret ?_
      | refine Y_res (r_assign rfl) rfl ?_
      | refine Y_res (r_eql rfl rfl) rfl ?_
    exact XT_ret1 (.inl rfl) Try.results17 rfl (fun w' h => ⟨a2, a2', si', li', _, rfl, fun e => (by rw [e]; exact decide_eq_true rfl), by rw [ep, ep]; exact h.tail, by rw [ep, ep]; exact hfin hf⟩)
  repeat first
    | refine XC_region ?_
    | refine X_nil ?_
    | refine XC_seq ?_
    | refine XT_seq ?_
    | refine Y_res (r_assign rfl) rfl ?_
    | refine Y_res (r_eql rfl rfl) rfl ?_
  refine XC_condP rfl (fun h5 => ?_) (fun h5 => ?_)
  · have ep : ∀ p, opP p (kind, at_, (n : Int), fl, (K, kc, ks), u) = armP p at_ := fun p => (if_neg h1).trans ((if_neg h3).trans ((if_neg h4).trans (if_pos h5)))
    rw [ep, ep] at hfin
    repeat first
      | refine XC_region ?_
      | refine XC_seq ?_
      | refine Y_res (r_move rfl) rfl ?_
      | refine Y_res (r_field' rfl) rfl ?_
      | refine Y_res (r_loadB rfl rfl) rfl ?_
    refine X_call (g := 22) rfl rfl (fun w1 q1 => (arm_any at_ (pr_in q1)).mono ?_)
    rintro e w2 ⟨rfl, q2⟩
    refine ⟨_, rfl, _, pr_out q2, ?_⟩
    clear q1 q2
    have e1 : (if -1 > at_ then -1 else at_) = max at_ (-1) := by omega
    unfold RfC PlC
    repeat first
      | refine XC_region ?_
      | refine X_nil ?_
      | refine XC_seq ?_
      | refine XT_seq ?_
      | refine XT_block_normal ?_
      | refine XC_ret ?_
      | refine Y_res (r_move rfl) rfl ?_
      | refine Y_res (r_assign rfl) rfl ?_
      | refine Y_res (r_field' rfl) rfl ?_
      | refine Y_res (r_nilCheck rfl) rfl ?_
      | refine Y_res (r_loadB rfl rfl) rfl ?_
      | refine X_storeB rfl rfl rfl (by simp) ?_
      | (refine Y_res (r_max2 rfl rfl) rfl ?_; rw [e1])
    refine XT_ret1 (.inl rfl) Try.results17 rfl (fun w' h => ⟨a, a', si, li, _, rfl, fun _ => rfl, by rw [ep, ep]; exact h.tail, by rw [ep, ep]; exact hfin ⟨h2.rf.sl, h2.rf.ll, h2.rf.sa, h2.rf.la⟩⟩)
  repeat first
    | refine XC_region ?_
    | refine X_nil ?_
    | refine XC_seq ?_
    | refine XT_seq ?_
    | refine Y_res (r_assign rfl) rfl ?_
    | refine Y_res (r_eql rfl rfl) rfl ?_
  refine XC_condP rfl (fun h6 => ?_) (fun h6 => ?_)
  · have ep : ∀ p, opP p (kind, at_, (n : Int), fl, (K, kc, ks), u) = revP p ks := fun p => (if_neg h1).trans ((if_neg h3).trans ((if_neg h4).trans ((if_neg h5).trans (if_pos h6))))
    rw [ep, ep] at hfin
    repeat first
      | refine XC_region ?_
      | refine XC_seq ?_
      | refine Y_res (r_move rfl) rfl ?_
      | refine Y_res (r_field' rfl) rfl ?_
      | refine Y_res (r_loadB rfl rfl) rfl ?_
    refine X_call (g := 14) rfl rfl (fun w1 q1 => (revive_any ks K kc (pr_in q1) h2.po (fun cs w1 h1 => hkp.old h1 old_false)).mono ?_)
    rintro e w2 ⟨a2, rfl, q2⟩
    refine ⟨_, rfl, _, pr_out q2, ?_⟩
    clear q1 q2
    repeat first
      | refine XC_region ?_
      | refine X_nil ?_
      | refine XT_seq ?_
      | refine Y_res (r_move rfl) rfl ?_
      | refine Y_res (r_field' rfl) rfl ?_
      | refine Y_res (r_loadB rfl rfl) rfl ?_
    refine X_call (g := 24) rfl rfl (fun w1 q1 => (rrevive_any ks K kc (pr_swap (pr_in q1)) h2.qo h2.rf (fun cs w1 h1 => hkp.old h1 old_false)).mono ?_)
    rintro e w2 ⟨a2', si', li', rfl, q2, hf⟩
    refine ⟨_, rfl, _, pr_out (rp_swap q2), ?_⟩
    clear q1 q2
    repeat first
      | refine XC_region ?_
      | refine X_nil ?_
      | refine XC_seq ?_
      | refine XT_seq ?_
      | refine XT_block_normal ?_
      | refine XC_ret ?_
      | refine Y_res (r_assign rfl) rfl ?_
    exact XT_ret1 (.inl rfl) Try.results17 rfl (fun w' h => ⟨a2, a2', si', li', _, rfl, fun _ => rfl, by rw [ep, ep]; exact h.tail, by rw [ep, ep]; exact hfin hf⟩)
  · have ep : ∀ p, opP p (kind, at_, (n : Int), fl, (K, kc, ks), u) = p := fun p => (if_neg h1).trans ((if_neg h3).trans ((if_neg h4).trans ((if_neg h5).trans (if_neg h6))))
    rw [ep, ep] at hfin
    repeat first
      | refine XC_region ?_
      | refine X_nil ?_
      | refine XC_seq ?_
      | refine XT_seq ?_
      | refine XT_block_normal ?_
      | refine XC_skip ?_
      | refine XC_ret ?_
      | refine Y_res (r_assign rfl) rfl ?_
    exact XT_ret1 (.inl rfl) Try.results17 rfl (fun w' h => ⟨a, a', si, li, _, rfl, fun _ => rfl, by rw [ep, ep]; exact h.tail, by rw [ep, ep]; exact hfin h2.rf⟩)
end Go.Proofs.Ytipikjikjjmmiaa.NPl
