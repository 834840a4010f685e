/- The laws' own anchor, walked. -/
import Derived.Test.YtgfpibojgkleiaaNWl8
namespace Go.Proofs.Ytgfpibojgkleiaa.NWl
open Go Go.RowKit Go.Proofs.Ytgfpibojgkleiaa.MX Go.Proofs.Ytgfpibojgkleiaa.PWal Go.Proofs.Ytgfpibojgkleiaa.NPl
set_option linter.unusedVariables false
set_option linter.unusedSimpArgs false
set_option linter.unusedVariables false
section
variable {gl g : Nat} {l : Lg} {a : La} {pa : Ad} {p : Pl} {w w0 : World} {TS : Nat → Prop} {es : List Ch} {x : Ch}
theorem wp_in (h : Hp w0 TS (x :: WlC gl g l a (PlC g pa p es)) w) : Hp w0 TS (WlC gl g l a (PlC g pa p (x :: es))) w := Hp.of_perm (cs := [x] ++ WlC gl g l a (PlC g pa p es)) h (pWin gl g l a g pa p [x] es)
theorem wp_out (h : Hp w0 TS (WlC gl g l a (PlC g pa p (x :: es))) w) : Hp w0 TS (x :: WlC gl g l a (PlC g pa p es)) w := Hp.of_perm (ds := [x] ++ WlC gl g l a (PlC g pa p es)) h (pWin gl g l a g pa p [x] es).symm
/-- Where a log is that goes on. -/
structure Go1 (p : Pl) (l : Lg) (a : La) : Prop where
  up : Upp p
  ok : LgOk l
  op : l.op < 4294967296
  br : l.broken = false
  tn : l.to ≤ p.n
  js : JOk .u8 a.js l.list
theorem Go1.ll (h : Go1 p l a) : p.loose.length ≤ 5000 := by rw [h.up.ls]; decide
theorem append_zs (n gz : Nat) (hT : Hp w0 TS (Ch.sl (some ⟨gz, 0, none⟩) n 5 .u8 (List.replicate n 0) :: WlC gl g l a (PlC g pa p es)) w) (h : Go1 p l a) (hn : n ≤ 100000) :
    Calls Try.prog 12 #[.pointer (some ⟨gl, 0, none⟩), .slice (some ⟨gz, 0, none⟩) n n] w fun e w' => ∃ a' pa', e = .returned (.int .i64 (appendL p l (List.replicate n 0)).2.2) ∧ Hp w0 TS (WlC gl g (appendL p l (List.replicate n 0)).2.1 a' (PlC g pa' (appendL p l (List.replicate n 0)).1 es)) w' ∧ JOk .u8 a'.js (appendL p l (List.replicate n 0)).2.1.list := by
  have h1 := append_any (List.replicate n 0) (some ⟨gz, 0, none⟩) n (wp_in hT) h.up.ok h.ok h.op (by simp; omega) h.ll (fun cs w1 h1 => rds_sl (h1.sat _ (List.mem_append_right _ (List.mem_cons_self ..)))) h.js
  rw [List.length_replicate] at h1
  exact h1.mono fun e w' ⟨a', pa', e1, e2, e3⟩ => ⟨a', pa', e1, (wp_out e2).tail, e3⟩
theorem append_nil (hT : Hp w0 TS (WlC gl g l a (PlC g pa p es)) w) (h : Go1 p l a) :
    Calls Try.prog 12 #[.pointer (some ⟨gl, 0, none⟩), .slice none 0 0] w fun e w' => ∃ a' pa', e = .returned (.int .i64 (appendL p l []).2.2) ∧ Hp w0 TS (WlC gl g (appendL p l []).2.1 a' (PlC g pa' (appendL p l []).1 es)) w' ∧ JOk .u8 a'.js (appendL p l []).2.1.list :=
  append_any [] none 0 hT h.up.ok h.ok h.op (by decide) h.ll (fun cs w1 h1 => Rds.nil_ _ _) h.js
theorem zs_wf (n : Nat) : ∀ x ∈ List.replicate n (0 : Int), 0 ≤ x ∧ x < 256 := fun x hx => by rw [List.eq_of_mem_replicate hx]; decide
/-- A log goes on behind a record. -/
theorem Go1.next {b : List Int} {a' : La} (h : Go1 p l a) (hb : ∀ x ∈ b, 0 ≤ x ∧ x < 256) (hbl : b.length ≤ 65536) (hle : l.at_ + needs b.length ≤ l.to) (hn : l.nx ≤ 50000) (hll : l.list.length ≤ 50000) :
    ∃ q, appendL p l b = (q, { l with at_ := l.at_ + needs b.length, nx := l.nx + 1, list := l.list ++ [b] }, 0) ∧ q.n = p.n ∧ (∀ j, nowAt q j = if l.at_ ≤ j ∧ j < l.at_ + needs b.length then secB l.gen l.op l.nx b (j - l.at_) else nowAt p j) ∧
      ∀ a' : La, JOk .u8 a'.js (l.list ++ [b]) → Go1 q { l with at_ := l.at_ + needs b.length, nx := l.nx + 1, list := l.list ++ [b] } a' := by
  obtain ⟨q, h1, h2, h3, h4⟩ := append_ok h.up hb h.br hbl hle h.tn
  refine ⟨q, h1, h3, h4, fun a' hj => ⟨h2, ⟨hle, h.ok.to, h.ok.gen, h.ok.op, by dsimp only; omega, by dsimp only; simp; omega⟩, h.op, h.br, by rw [h3]; exact h.tn, hj⟩⟩
end
set_option maxRecDepth 100000 in
set_option maxHeartbeats 8000000 in
theorem anchor_any (w : World) : Calls Try.prog 9 #[] w (Says w (.bool true)) := by
  refine calls_of_X (Rr := Says w (.bool true)) (vs := []) (M := Hp w (fun _ => False) []) Try.func9 rfl Try.ntmps9 rfl (Hp.nil _ _) ?_
  repeat first
    | refine XC_region ?_
    | refine X_nil ?_
    | refine XC_seq ?_
    | refine XT_seq ?_
    | refine Y_res (r_assign rfl) rfl ?_
  refine X_call (g := 10) rfl rfl (fun w1 q1 => (new_es 8 q1 (by decide) (by decide)).mono ?_)
  rintro e w2 ⟨g, pa, rfl, q2⟩
  refine ⟨_, rfl, _, q2, ?_⟩
  clear q1 q2
  have hu := upp_new (n := 8) (by decide) (by decide)
  have hg : ∀ i, (rdS (nowAt (new0 8) i)).gen ≠ 1 := fun i => new_gen (by decide)
  have hn8 : (new0 8).n = 8 := rfl
  generalize new0 8 = p at *
  repeat first
    | refine XC_region ?_
    | refine X_nil ?_
    | refine XC_condF rfl ?_
    | refine XC_seq ?_
    | refine XT_seq ?_
    | refine XC_skip ?_
    | refine Y_res (r_move rfl) rfl ?_
    | refine Y_res (r_assign rfl) rfl ?_
    | refine Y_res (r_eqlNil rfl rfl) rfl ?_
  refine X_call (g := 11) rfl rfl (fun w1 q1 => (open_any 2 6 1 q1 hu.ok hu.dn hu.wf (by decide) (by omega) (by decide)).mono ?_)
  rintro e w2 ⟨gl, a, rfl, q2, hj⟩
  have eo : openP (nowAt p) 2 6 1 = ⟨2, 6, 1, 1, 1, [], false⟩ := open_none (fun i _ _ => hg i) (by decide)
  rw [eo] at q2 hj
  refine ⟨_, rfl, _, q2, ?_⟩
  clear q1 q2 eo hg
  have h0 : Go1 p ⟨2, 6, 1, 1, 1, [], false⟩ a := ⟨hu, ⟨by decide, by decide, by decide, by decide, by decide, by decide⟩, by decide, rfl, by dsimp only; omega, hj⟩
  repeat first
    | refine XC_region ?_
    | refine X_nil ?_
    | refine XC_condF rfl ?_
    | refine XC_seq ?_
    | refine XT_seq ?_
    | refine XC_skip ?_
    | refine Y_res (r_move rfl) rfl ?_
    | refine Y_res (r_assign rfl) rfl ?_
    | refine Y_res (r_neq rfl rfl) rfl ?_
    | refine Y_res (r_eqlNil rfl rfl) rfl ?_
    | refine Y_on rfl rfl ?_
    | refine Y_res (r_extract rfl rfl) rfl ?_
    | refine Y_res (r_pickF rfl rfl) rfl ?_
    | (refine X_make rfl rfl (by omega) (by omega) (by omega) rfl ?_; intro _ _)
  rename_i g1 hg1
  obtain ⟨q, k1, k2, k3, k4⟩ := h0.next (b := List.replicate 100 0) (a' := a) (zs_wf 100) (by decide) (by decide) (by decide) (by decide)
  refine X_call (g := 12) rfl rfl (fun w1 q1 => (append_zs 100 g1 q1 h0 (by decide)).mono ?_)
  rintro e w2 ⟨a1, pa1, rfl, q2, hj1⟩
  rw [k1] at q2 hj1 ⊢
  refine ⟨_, rfl, _, q2, ?_⟩
  clear q1 q2
  have h1 := k4 a1 hj1
  obtain ⟨l1, hl1⟩ : ∃ l1 : Lg, l1 = { at_ := 2 + needs (List.replicate 100 (0 : Int)).length, to := 6, gen := 1, op := 1, nx := 2, list := [] ++ [List.replicate 100 0], broken := false } := ⟨_, rfl⟩
  have e1 : roomL l1 = 44 := by rw [hl1]; decide +kernel
  have e2 : l1.at_ + needs (List.replicate 44 (0 : Int)).length ≤ l1.to := by rw [hl1]; decide +kernel
  have e3 : l1.nx ≤ 50000 ∧ l1.list.length ≤ 50000 := by rw [hl1]; decide
  have e4 : l1.to - (l1.at_ + needs (List.replicate 44 (0 : Int)).length) < needs ([] : List Int).length := by rw [hl1]; decide +kernel
  have e5 : roomL { l1 with at_ := l1.at_ + needs (List.replicate 44 (0 : Int)).length, nx := l1.nx + 1, list := l1.list ++ [List.replicate 44 0] } = -1 := by rw [hl1]; decide +kernel
  have h1 : Go1 q l1 a1 := by rw [hl1]; exact h1
  obtain ⟨q', m1, m2, m3, m4⟩ := h1.next (b := List.replicate 44 0) (a' := a1) (zs_wf 44) (by decide) e2 e3.1 e3.2
  refine X_mem (M' := Hp w (fun _ => False) (WlC gl g l1 a1 (PlC g pa1 q []))) (fun _ h => by rw [hl1]; exact h) ?_
  clear k1 k4 h0 hl1
  repeat first
    | refine XC_region ?_
    | refine X_nil ?_
    | refine XC_seq ?_
    | refine XT_seq ?_
    | refine Y_res (r_move rfl) rfl ?_
    | refine Y_res (r_assign rfl) rfl ?_
  refine X_call (g := 13) rfl rfl (fun w1 q1 => (room_any q1 h1.ok).mono ?_)
  rintro e w2 ⟨rfl, q2⟩
  rw [e1]
  refine ⟨_, rfl, _, q2, ?_⟩
  clear q1 q2
  repeat first
    | refine XC_region ?_
    | refine X_nil ?_
    | refine XC_seq ?_
    | refine XT_seq ?_
    | refine Y_res (r_move rfl) rfl ?_
    | refine Y_res (r_assign rfl) rfl ?_
    | (refine X_make rfl rfl (by omega) (by omega) (by omega) rfl ?_; intro _ _)
  rename_i g2 hg2
  refine X_call (g := 12) rfl rfl (fun w1 q1 => (append_zs 44 g2 q1 h1 (by decide)).mono ?_)
  rintro e w2 ⟨a2, pa2, rfl, q2, hj2⟩
  rw [m1] at q2 hj2 ⊢
  refine ⟨_, rfl, _, q2, ?_⟩
  clear q1 q2
  have h2 := m4 a2 hj2
  have hf := append_full (p := q') (b := []) h2.br (by decide) e4
  repeat first
    | refine XC_region ?_
    | refine X_nil ?_
    | refine XC_seq ?_
    | refine XT_seq ?_
    | refine Y_res (r_move rfl) rfl ?_
    | refine Y_res (r_assign rfl) rfl ?_
    | refine Y_res (r_eql rfl rfl) rfl ?_
    | refine Y_on rfl rfl ?_
    | refine Y_res (r_pickT rfl rfl) rfl ?_
  refine X_call (g := 12) rfl rfl (fun w1 q1 => (append_nil q1 h2).mono ?_)
  rintro e w2 ⟨a3, pa3, rfl, q2, hj3⟩
  rw [hf] at q2 hj3 ⊢
  refine ⟨_, rfl, _, q2, ?_⟩
  clear q1 q2
  repeat first
    | refine Y_res (r_move rfl) rfl ?_
    | refine Y_res (r_eql rfl rfl) rfl ?_
    | refine Y_on rfl rfl ?_
    | refine Y_res (r_pickT rfl rfl) rfl ?_
  refine X_call (g := 13) rfl rfl (fun w1 q1 => (room_any q1 h2.ok).mono ?_)
  rintro e w2 ⟨rfl, q2⟩
  rw [e5]
  refine ⟨_, rfl, _, q2, ?_⟩
  clear q1 q2
  repeat first
    | refine X_nil ?_
    | refine XT_seq ?_
    | refine XC_ret ?_
    | refine Y_res (r_assign rfl) rfl ?_
    | refine Y_res (r_eql rfl rfl) rfl ?_
    | refine Y_on rfl rfl ?_
    | refine Y_res (r_pickT rfl rfl) rfl ?_
  exact XT_says (.inl rfl) Try.results9 rfl rfl
end Go.Proofs.Ytgfpibojgkleiaa.NWl
