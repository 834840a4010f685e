/- A record, appended to a log: walked. -/
import Derived.Test.YtgfpibojgkleiaaNWl5
namespace Go.Proofs.Ytgfpibojgkleiaa.NWl
open Go Go.RowKit Go.Proofs.Ytgfpibojgkleiaa.MX Go.Proofs.Ytgfpibojgkleiaa.PWal Go.Proofs.Ytgfpibojgkleiaa.NPl
set_option linter.unusedVariables false
set_option linter.unusedSimpArgs false
set_option linter.unusedVariables false
/-- So many sectors written, till one isn't. -/
def wrsP (p : Pl) (at_ : Nat) (sec : Nat → List Int) : Nat → Pl × Int
  | 0 => (p, 0)
  | n + 1 => if (wrsP p at_ sec n).2 ≠ 0 then wrsP p at_ sec n else writeP (wrsP p at_ sec n).1 ((at_ + n : Nat) : Int) (sec n)
theorem wrsP_stuck {p : Pl} {at_ : Nat} {sec : Nat → List Int} {k : Nat} (h : (wrsP p at_ sec k).2 ≠ 0) : ∀ n, k ≤ n → wrsP p at_ sec n = wrsP p at_ sec k
  | 0, hn => by rw [show k = 0 by omega]
  | n + 1, hn => by
    by_cases e : k = n + 1
    · rw [e]
    · have ih := wrsP_stuck h n (by omega)
      simp only [wrsP]
      rw [ih, if_pos h]
def appendL (p : Pl) (l : Lg) (b : List Int) : Pl × Lg × Int :=
  if l.broken = true then (p, l, 61) else if 65536 < b.length then (p, l, 54) else if l.to - l.at_ < needs b.length then (p, l, 52)
  else if (wrsP p l.at_ (secB l.gen l.op l.nx b) (needs b.length)).2 ≠ 0 then ((wrsP p l.at_ (secB l.gen l.op l.nx b) (needs b.length)).1, { l with broken := true }, (wrsP p l.at_ (secB l.gen l.op l.nx b) (needs b.length)).2)
  else if (syncP (wrsP p l.at_ (secB l.gen l.op l.nx b) (needs b.length)).1).2 ≠ 0 then ((syncP (wrsP p l.at_ (secB l.gen l.op l.nx b) (needs b.length)).1).1, { l with broken := true }, (syncP (wrsP p l.at_ (secB l.gen l.op l.nx b) (needs b.length)).1).2)
  else ((syncP (wrsP p l.at_ (secB l.gen l.op l.nx b) (needs b.length)).1).1, { l with at_ := l.at_ + needs b.length, nx := l.nx + 1, list := l.list ++ [b] }, 0)
theorem writeP_n' (p : Pl) (i : Int) (b : List Int) : (writeP p i b).1.n = p.n := by
  unfold writeP
  split
  · rfl
  · split
    · rfl
    · split
      · exact (stepP_same p).1
      · exact (stepP_same p).1
section
variable {gl g : Nat} {l : Lg} {a : La} {pa : Ad} {p : Pl} {w w0 : World} {TS : Nat → Prop} {es : List Ch}
set_option maxRecDepth 100000 in
set_option maxHeartbeats 8000000 in
theorem append_any (b : List Int) (B : Option Addr) (c : Nat) (hT : Hp w0 TS (WlC gl g l a (PlC g pa p es)) w) (hp : PlOk p) (hl : LgOk l) (hop : l.op < 4294967296) (hbl : b.length ≤ 100000) (hll : p.loose.length ≤ 5000) (hr : ∀ cs w1, Hp w0 TS (cs ++ es) w1 → Rds w1 B c .u8 b) (hj : JOk .u8 a.js l.list) :
    Calls Try.prog 12 #[.pointer (some ⟨gl, 0, none⟩), .slice B b.length c] w fun e w' => ∃ a' pa', e = .returned (.int .i64 (appendL p l b).2.2) ∧ Hp w0 TS (WlC gl g (appendL p l b).2.1 a' (PlC g pa' (appendL p l b).1 es)) w' ∧ JOk .u8 a'.js (appendL p l b).2.1.list := by
  have hl0 := hl.le
  have hl1 := hl.to
  have hl2 := hl.gen
  have hl4 := hl.nx
  have hl5 := hl.ll
  have hnd := needs_bd b.length
  obtain ⟨r, hr0⟩ : ∃ r, r = appendL p l b := ⟨_, rfl⟩
  rw [← hr0]
  unfold appendL at hr0
  obtain ⟨n, hn⟩ : ∃ n, n = needs b.length := ⟨_, rfl⟩
  have hbB := bodyB_len b
  rw [← hn] at hnd hr0 hbB
  refine calls_of_X (vs := [_, _]) (M := Hp w0 TS (WlC gl g l a (PlC g pa p es))) Try.func12 rfl Try.ntmps12 rfl hT ?_
  clear hT
  unfold WlC lgC
  repeat first
    | refine XC_region ?_
    | refine X_nil ?_
    | refine XC_seq ?_
    | refine XT_seq ?_
    | refine XC_block ?_
    | refine Y_res (r_move rfl) rfl ?_
    | refine Y_res (r_assign rfl) rfl ?_
    | refine Y_res (r_len rfl) rfl ?_
    | refine Y_res (r_field' rfl) rfl ?_
    | refine Y_res (r_nilCheck rfl) rfl ?_
    | refine Y_res (r_loadB rfl rfl) rfl ?_
    | refine Y_says (g := 30) rfl rfl (fun w1 hM => needs_any b.length w1 (by omega)) ?_
  rw [← hn]
  skip
  refine XC_cond rfl (fun h1 => ?_) (fun h1 => ?_)
  · rw [if_pos h1] at hr0
    subst hr0
    repeat first
      | refine XC_region ?_
      | refine X_nil ?_
      | refine XC_seq ?_
      | refine XT_seq ?_
      | refine XT_block_ret ?_
      | refine XT_then_ret ?_
      | refine XC_ret ?_
      | refine Y_res (r_assign rfl) rfl ?_
    exact XT_ret1 (.inl rfl) Try.results12 rfl (fun w' h => ⟨a, pa, rfl, h, hj⟩)
  rw [if_neg (by simp [h1])] at hr0
  repeat first
    | refine XC_region ?_
    | refine X_nil ?_
    | refine XC_seq ?_
    | refine XT_seq ?_
    | refine Y_res (r_move rfl) rfl ?_
    | refine Y_res (r_assign rfl) rfl ?_
    | refine Y_res (r_gtr rfl rfl) rfl ?_
    | refine Y_res (r_len rfl) rfl ?_
  refine XC_condP rfl (fun h2 => ?_) (fun h2 => ?_)
  · rw [if_pos (by omega)] at hr0
    subst hr0
    repeat first
      | refine XC_region ?_
      | refine X_nil ?_
      | refine XC_seq ?_
      | refine XT_seq ?_
      | refine XT_block_ret ?_
      | refine XT_then_ret ?_
      | refine XC_ret ?_
      | refine Y_res (r_assign rfl) rfl ?_
    exact XT_ret1 (.inl rfl) Try.results12 rfl (fun w' h => ⟨a, pa, rfl, h, hj⟩)
  rw [if_neg (by omega)] at hr0
  repeat first
    | refine XC_quietF rfl (by kernel_rfl) (by kernel_rfl) drw_hp ?_
    | refine XQ_nil ?_
    | refine XC_seq ?_
    | refine XT_seq ?_
    | refine Y_res (r_move rfl) rfl ?_
    | refine Y_res (r_assign rfl) rfl ?_
    | refine Y_res (r_sub64 rfl rfl (by omega)) rfl ?_
    | refine Y_res (r_gtr rfl rfl) rfl ?_
    | refine Y_res (r_field' rfl) rfl ?_
    | refine Y_res (r_nilCheck rfl) rfl ?_
    | refine Y_res (r_loadB rfl rfl) rfl ?_
  refine XC_condP rfl (fun h3 => ?_) (fun h3 => ?_)
  · rw [if_pos (by omega)] at hr0
    subst hr0
    repeat first
      | refine XC_region ?_
      | refine X_nil ?_
      | refine XC_seq ?_
      | refine XT_seq ?_
      | refine XT_block_ret ?_
      | refine XT_then_ret ?_
      | refine XC_ret ?_
      | refine Y_res (r_assign rfl) rfl ?_
    exact XT_ret1 (.inl rfl) Try.results12 rfl (fun w' h => ⟨a, pa, rfl, h, hj⟩)
  rw [if_neg (by omega)] at hr0
  repeat first
    | refine XC_region ?_
    | refine XC_seq ?_
    | refine XT_seq ?_
    | refine XT_block_normal ?_
    | refine XC_skip ?_
    | refine Y_res (r_move rfl) rfl ?_
    | refine Y_res (r_len rfl) rfl ?_
  refine X_mem (M' := Hp w0 TS (Ch.sl none 0 5 .u8 [] :: WlC gl g l a (PlC g pa p es))) (fun _ h => h.nilS) ?_
  refine X_call (g := 31) rfl rfl (fun w1 q1 => (put_any [] none 0 b.length 4 w1 w0 TS _ q1 (by decide) (by omega) (by decide)).mono ?_)
  rintro e w2 ⟨A1, c1, rfl, q2⟩
  refine ⟨_, rfl, _, q2, ?_⟩
  clear q1 q2
  have hlen0 : ([] ++ be b.length 4 ++ b).length = 4 + b.length := by simp [be_len]
  repeat first
    | refine XC_region ?_
    | refine X_nil ?_
    | refine XC_seq ?_
    | refine XT_seq ?_
    | refine XC_block ?_
    | refine Y_res (r_move rfl) rfl ?_
    | refine Y_res (r_assign rfl) rfl ?_
    | refine Y_res (r_sub64 rfl rfl (by omega)) rfl ?_
    | refine Y_res (r_mul64 rfl rfl (by omega)) rfl ?_
    | refine Y_res (r_len rfl) rfl ?_
    | (refine X_append rfl rfl (fun w_ h_ => hr ([Ch.sl A1 c1 5 .u8 ([] ++ be b.length 4)] ++ WlC gl g l a (PlC g pa p [])) w_ h_) rfl rfl rfl (by simp [be_len]; omega) (by simp [be_len]; omega) rfl ?_; intro _ _)
    | (refine X_appendZS (m := 48 * n - (4 + b.length)) rfl rfl (by simp [be_len]; omega) rfl rfl (by simp [be_len]; omega) (by simp [be_len]; omega) rfl ?_; intro _ _)
  rename_i A5 c5 A6 c6
  refine XC_re (e := 6) (v' := .slice A6 (bodyB b).length c6) rfl (by rw [hbB]; simp [be_len]; omega) ?_
  have hmem : ∀ w1, Hp w0 TS (Ch.sl A6 c6 5 .u8 ([] ++ be b.length 4 ++ b ++ List.replicate (48 * n - (4 + b.length)) 0) :: WlC gl g l a (PlC g pa p es)) w1 → Hp w0 TS (Ch.sl A6 c6 5 .u8 (bodyB b) :: WlC gl g l a (PlC g pa p es)) w1 := fun w1 h => by rw [bodyB, ← hn]; exact h
  refine XC_open (ι := Unit) (fun _ => (bodyB b).length ≤ c6 ∧ c6 ≤ 9223372036854775807) (fun _ => Hp w0 TS (Ch.sl A6 c6 5 .u8 (bodyB b) :: WlC gl g l a (PlC g pa p es))) (fun w1 h => ⟨(), sl_cap (hmem w1 h).head, hmem w1 h⟩) ?_
  rintro _ ⟨hc6, hc6m⟩
  clear hmem
  obtain ⟨sec, hsec⟩ : ∃ sec, sec = secB l.gen l.op l.nx b := ⟨_, rfl⟩
  rw [← hsec] at hr0
  refine XC_loop (ι := Nat × Ad × Pl) (fun j => j.1 ≤ n ∧ wrsP p l.at_ sec j.1 = (j.2.2, 0) ∧ PlOk j.2.2 ∧ j.2.2.loose.length ≤ 5000 + j.1) (fun j => [(0, .pointer (some ⟨gl, 0, none⟩)), (1, .slice B b.length c), (5, .int .i64 n), (6, .slice A6 (bodyB b).length c6), (47, .int .i64 n), (48, .int .i64 j.1)])
    (fun j => Hp w0 TS (Ch.sl A6 c6 5 .u8 (bodyB b) :: WlC gl g l a (PlC g j.2.1 j.2.2 es))) (fun j => n - j.1) (0, pa, p) ⟨Nat.zero_le _, rfl, hp, by dsimp only; omega⟩ ⟨rfl, rfl, rfl, rfl, rfl, rfl, trivial⟩ (fun _ h => h) ?_
  rintro ⟨i, pb, q⟩ ⟨hi, hq, hqo, hql⟩
  dsimp only at hi hq hqo hql ⊢
  repeat first
    | refine XC_region ?_
    | refine X_nil ?_
    | refine XC_seq ?_
    | refine XT_seq ?_
    | refine Y_res (r_lss rfl rfl) rfl ?_
  refine XC_condP rfl (fun hlt => ?_) (fun hge => ?_)
  · have hi2 : i < n := by omega
    have hsl : (sec i).length = 64 := by rw [hsec]; exact secB_len (by rw [← hn]; exact hi2)
    have hsi : (((([] ++ be l.gen 4) ++ be l.op 4) ++ be l.nx 4) ++ be i 2) ++ be (n - 1) 2 ++ partB b i = sec i := by rw [hsec, secB, ← hn]; rfl
    have hpl : (partB b i).length = 48 := partB_len (by rw [← hn]; exact hi2)
    have hw1 : wrsP p l.at_ sec (i + 1) = writeP q ((l.at_ + i : Nat) : Int) (sec i) := by
      simp only [wrsP]
      rw [hq]
      rfl
    repeat first
      | refine XC_region ?_
      | refine X_nil ?_
      | refine XC_seq ?_
      | refine XT_seq ?_
      | refine XC_block ?_
      | refine XC_skip ?_
      | refine Y_res (r_move rfl) rfl ?_
      | refine Y_res (r_assign rfl) rfl ?_
    refine XC_mem (M' := Hp w0 TS (Ch.sl none 0 5 .u8 [] :: Ch.sl A6 c6 5 .u8 (bodyB b) :: WlC gl g l a (PlC g pb q es))) (fun _ h => h.nilS) ?_
    refine XC_held 20 (Hp w0 TS [Ch.blk gl (lgC g l a) 59]) rfl drw_hp (fun _ h => Hp.sublist h (.cons _ (.cons _ (.cons_cons _ (List.nil_sublist _))))) ?_
    unfold lgC
    refine TE_reads [0, 1, 2, 3, 5, 6, 7, 8, 10, 11, 12, 13, 15, 17, 18] (by decide +kernel) (by decide +kernel) rfl ?_
    repeat first
      | refine Y_res (r_move rfl) rfl ?_
      | refine Y_res (r_sub64 rfl rfl (by omega)) rfl ?_
      | refine Y_res (r_field' rfl) rfl ?_
      | refine Y_res (r_nilCheck rfl) rfl ?_
      | refine Y_res (r_loadB rfl rfl) rfl ?_
    refine XQ_nodeE ?_
    refine TE_one 4 (by decide +kernel) rfl rfl ?_
    refine X_call (g := 31) rfl rfl (fun w1 q1 => (put_any [] none 0 l.gen 4 w1 w0 TS _ q1 (by decide) (by omega) (by decide)).mono ?_)
    rintro e w2 ⟨B1, d1, rfl, q2⟩
    refine ⟨_, rfl, _, q2, ?_⟩
    clear q1 q2
    repeat first
      | refine X_nil ?_
      | refine XT_only ?_
    refine XT_nodeE (fun _ h => Hp.sublist h (.cons _ (.cons _ (.cons_cons _ (List.nil_sublist _))))) ?_
    refine TE_one 9 (by decide +kernel) rfl rfl ?_
    refine X_call (g := 31) rfl rfl (fun w1 q1 => (put_any ([] ++ be l.gen 4) B1 d1 l.op 4 w1 w0 TS _ q1 (by decide) (by omega) (by simp [be_len])).mono ?_)
    rintro e w2 ⟨B2, d2, rfl, q2⟩
    refine ⟨_, rfl, _, q2, ?_⟩
    clear q1 q2
    repeat first
      | refine X_nil ?_
      | refine XT_only ?_
    refine XT_nodeE (fun _ h => Hp.sublist h (.cons _ (.cons _ (.cons_cons _ (List.nil_sublist _))))) ?_
    refine TE_one 14 (by decide +kernel) rfl rfl ?_
    refine X_call (g := 31) rfl rfl (fun w1 q1 => (put_any (([] ++ be l.gen 4) ++ be l.op 4) B2 d2 l.nx 4 w1 w0 TS _ q1 (by decide) (by omega) (by simp [be_len])).mono ?_)
    rintro e w2 ⟨B3, d3, rfl, q2⟩
    refine ⟨_, rfl, _, q2, ?_⟩
    clear q1 q2
    repeat first
      | refine X_nil ?_
      | refine XT_only ?_
    refine XT_nodeE (fun _ h => Hp.sublist h (.cons _ (.cons _ (.cons_cons _ (List.nil_sublist _))))) ?_
    refine TE_one 16 (by decide +kernel) rfl rfl ?_
    refine X_call (g := 31) rfl rfl (fun w1 q1 => (put_any ((([] ++ be l.gen 4) ++ be l.op 4) ++ be l.nx 4) B3 d3 i 2 w1 w0 TS _ q1 (by decide) (by omega) (by simp [be_len])).mono ?_)
    rintro e w2 ⟨B4, d4, rfl, q2⟩
    refine ⟨_, rfl, _, q2, ?_⟩
    clear q1 q2
    repeat first
      | refine X_nil ?_
      | refine XT_only ?_
    refine XT_nodeE (fun _ h => Hp.sublist h (.cons _ (.cons _ (.cons_cons _ (List.nil_sublist _))))) ?_
    refine TE_one 19 (by decide +kernel) rfl rfl ?_
    refine Y_re (e := 69) (v' := .int .i64 ((n - 1 : Nat) : Int)) rfl (by congr 1; omega) ?_
    refine X_call (g := 31) rfl rfl (fun w1 q1 => (put_any (((([] ++ be l.gen 4) ++ be l.op 4) ++ be l.nx 4) ++ be i 2) B4 d4 (n - 1) 2 w1 w0 TS _ q1 (by decide) (by omega) (by simp [be_len])).mono ?_)
    rintro e w2 ⟨B5, d5, rfl, q2⟩
    refine ⟨_, rfl, _, q2, ?_⟩
    clear q1 q2
    repeat first
      | refine X_nil ?_
      | refine XT_only ?_
    refine XT_nodeE (fun _ h => Hp.sublist h (.cons _ (.cons _ (.cons_cons _ (List.nil_sublist _))))) ?_
    refine TE_tail 20 (by decide +kernel) rfl rfl ?_
    repeat first
      | refine X_nil ?_
      | refine XT_only ?_
      | refine Y_res (r_assign rfl) rfl ?_
    refine XT_nodeW (TN_end (by decide +kernel) ?_)
    have h5l : ((((([] ++ be l.gen 4) ++ be l.op 4) ++ be l.nx 4) ++ be i 2) ++ be (n - 1) 2).length = 16 := by simp [be_len]
    repeat first
      | refine XC_seq ?_
      | refine XT_seq ?_
    refine XC_held 20 (Hp w0 TS [Ch.blk gl (lgC g l a) 59]) rfl drw_hp (fun _ h => Hp.sublist h (.cons _ (.cons _ (.cons_cons _ (List.nil_sublist _))))) ?_
    unfold lgC
    refine TE_reads [0, 1, 2, 3, 4, 5, 6, 7, 8, 9, 10, 11, 12, 13, 14, 15, 16, 17] (by decide +kernel) (by decide +kernel) rfl ?_
    repeat first
      | refine Y_res (r_move rfl) rfl ?_
      | refine Y_res (r_add64 rfl rfl (by omega)) rfl ?_
      | refine Y_res (r_mul64 rfl rfl (by omega)) rfl ?_
      | refine Y_res (r_field' rfl) rfl ?_
      | refine Y_res (r_nilCheck rfl) rfl ?_
      | refine Y_res (r_loadB rfl rfl) rfl ?_
      | refine Y_res (r_cutLH rfl rfl rfl (by omega) (by omega)) rfl ?_
    refine XQ_nodeE ?_
    refine TE_one 18 (by decide +kernel) rfl rfl ?_
    refine X_append (ys := partB b i) rfl rfl (fun w_ h_ => (rds_sl (Hp.tail h_).head).cut (i * 48) ((i + 1) * 48) (by omega) (by omega)) rfl rfl (by rw [hpl]; omega) (by rw [h5l, hpl]; decide) (by rw [h5l, hpl]; decide) rfl ?_
    intro A8 c8
    rw [hsi]
    repeat first
      | refine X_nil ?_
      | refine XT_only ?_
    refine XT_nodeE (fun _ h => Hp.sublist h (.cons _ (.cons _ (.cons_cons _ (List.nil_sublist _))))) ?_
    refine TE_one 19 (by decide +kernel) rfl rfl ?_
    refine X_call (g := 32) rfl rfl (fun w1 q1 => (write_any (g := g) (a := pb) (p := q) (es := WlC gl g l a ([Ch.sl A8 c8 5 .u8 (sec i), Ch.sl A6 c6 5 .u8 (bodyB b)] ++ es)) ((l.at_ + i : Nat) : Int) (sec i) A8 c8 (wl_pl (Hp.of_perm (cs := [Ch.sl A8 c8 5 .u8 (sec i), Ch.sl A6 c6 5 .u8 (bodyB b)] ++ WlC gl g l a (PlC g pb q es)) q1 (pWin _ _ _ _ _ _ _ _ _))) hqo (by omega) (fun cs w2 h2 => rds_sl (h2.sat _ (List.mem_append_right _ (.tail _ (.tail _ (.tail _ (.head _)))))))).mono ?_)
    rintro e w2 ⟨pc, rfl, q2⟩
    have q3 : Hp w0 TS (Ch.sl A8 c8 5 .u8 (sec i) :: Ch.sl A6 c6 5 .u8 (bodyB b) :: WlC gl g l a (PlC g pc (writeP q ((l.at_ + i : Nat) : Int) (sec i)).1 es)) w2 := Hp.of_perm (pl_wl q2) (pWin gl g l a g pc _ [Ch.sl A8 c8 5 .u8 (sec i), Ch.sl A6 c6 5 .u8 (bodyB b)] es).symm
    refine ⟨_, rfl, _, q3, ?_⟩
    clear q1 q2 q3
    repeat first
      | refine X_nil ?_
      | refine XT_only ?_
    refine XT_nodeE (fun _ h => Hp.sublist h (.cons _ (.cons _ (.cons_cons _ (List.nil_sublist _))))) ?_
    refine TE_tail 20 (by decide +kernel) rfl rfl ?_
    repeat first
      | refine X_nil ?_
      | refine XT_only ?_
      | refine Y_res (r_assign rfl) rfl ?_
    refine XT_nodeW (TN_end (by decide +kernel) ?_)
    repeat first
      | refine XC_region ?_
      | refine X_nil ?_
      | refine XC_seq ?_
      | refine XT_seq ?_
      | refine Y_res (r_move rfl) rfl ?_
      | refine Y_res (r_neq rfl rfl) rfl ?_
    refine XC_condP rfl (fun h6 => ?_) (fun h6 => ?_)
    · have hst : wrsP p l.at_ sec n = writeP q ((l.at_ + i : Nat) : Int) (sec i) := by
        rw [wrsP_stuck (k := i + 1) (by rw [hw1]; exact h6) n (by omega), hw1]
      rw [hst, if_pos h6] at hr0
      subst hr0
      unfold WlC lgC
      repeat first
        | refine XC_region ?_
        | refine X_nil ?_
        | refine XC_seq ?_
        | refine XT_seq ?_
        | refine XT_block_ret ?_
        | refine XT_then_ret ?_
        | refine XC_ret ?_
        | refine Y_res (r_move rfl) rfl ?_
        | refine Y_res (r_assign rfl) rfl ?_
        | refine Y_res (r_field' rfl) rfl ?_
        | refine Y_res (r_nilCheck rfl) rfl ?_
        | refine X_storeB rfl rfl rfl (by simp) ?_
      exact XT_ret1 (.inl rfl) Try.results12 rfl (fun w' h => ⟨a, pc, rfl, h.tail.tail, hj⟩)
    · have h6 := Classical.not_not.1 h6
      repeat first
        | refine XC_region ?_
        | refine X_nil ?_
        | refine XT_seq ?_
        | refine XT_block_normal ?_
        | refine XC_skip ?_
        | refine Y_res (r_move rfl) rfl ?_
        | refine Y_res (r_add64 rfl rfl (by omega)) rfl ?_
      refine XT_round (i + 1, pc, (writeP q ((l.at_ + i : Nat) : Int) (sec i)).1) ⟨by dsimp only; omega, by rw [hw1, ← h6], ok_write hqo (by omega) _ _, by
        dsimp only
        have := loose_write q ((l.at_ + i : Nat) : Int) (sec i)
        omega⟩ (by dsimp only; omega) ⟨rfl, rfl, rfl, rfl, rfl, rfl, trivial⟩ (fun _ h => h.tail)
  obtain rfl : i = n := by omega
  rw [hq] at hr0
  rw [if_neg (fun h => h rfl)] at hr0
  unfold WlC lgC
  repeat first
    | refine XC_region ?_
    | refine XC_seq ?_
    | refine XT_seq ?_
    | refine XT_block_same rfl ?_
    | refine XT_then_exit ?_
    | refine XC_exit ?_
    | refine Y_res (r_move rfl) rfl ?_
    | refine Y_res (r_field' rfl) rfl ?_
    | refine Y_res (r_nilCheck rfl) rfl ?_
    | refine Y_res (r_loadB rfl rfl) rfl ?_
  refine X_call (g := 33) rfl rfl (fun w1 q1 => (sync_any (g := g) (a := pb) (p := q) (es := WlC gl g l a ([Ch.sl A6 c6 5 .u8 (bodyB b)] ++ es)) (wl_pl (Hp.of_perm (cs := [Ch.sl A6 c6 5 .u8 (bodyB b)] ++ WlC gl g l a (PlC g pb q es)) q1 (pWin _ _ _ _ _ _ _ _ _))) hqo).mono ?_)
  rintro e w2 ⟨pc, rfl, q2⟩
  have q3 : Hp w0 TS (Ch.sl A6 c6 5 .u8 (bodyB b) :: WlC gl g l a (PlC g pc (syncP q).1 es)) w2 := Hp.of_perm (pl_wl q2) (pWin gl g l a g pc _ [Ch.sl A6 c6 5 .u8 (bodyB b)] es).symm
  refine ⟨_, rfl, _, q3.tail, ?_⟩
  clear q1 q2 q3
  repeat first
    | refine XC_region ?_
    | refine X_nil ?_
    | refine XC_seq ?_
    | refine XT_seq ?_
    | refine Y_res (r_move rfl) rfl ?_
    | refine Y_res (r_assign rfl) rfl ?_
    | refine Y_res (r_neq rfl rfl) rfl ?_
  refine XC_condP rfl (fun h6 => ?_) (fun h6 => ?_)
  · rw [if_pos h6] at hr0
    subst hr0
    unfold WlC lgC
    repeat first
      | refine XC_region ?_
      | refine X_nil ?_
      | refine XC_seq ?_
      | refine XT_seq ?_
      | refine XT_then_ret ?_
      | refine XC_ret ?_
      | refine Y_res (r_move rfl) rfl ?_
      | refine Y_res (r_assign rfl) rfl ?_
      | refine Y_res (r_field' rfl) rfl ?_
      | refine Y_res (r_nilCheck rfl) rfl ?_
      | refine X_storeB rfl rfl rfl (by simp) ?_
    exact XT_ret1 (.inl rfl) Try.results12 rfl (fun w' h => ⟨a, pc, rfl, h, hj⟩)
  rw [if_neg h6] at hr0
  subst hr0
  have e1 : (l.list ++ [b]).length = l.list.length + 1 := by simp
  repeat first
    | refine XC_seq ?_
    | refine XT_seq ?_
    | refine XC_skip ?_
  unfold WlC
  refine XC_held 11 (Hp w0 TS [Ch.blk gl (lgC g l a) 59]) rfl drw_hp (fun _ h => Hp.sublist h (.cons_cons _ (List.nil_sublist _))) ?_
  unfold lgC
  refine TE_reads [0, 1, 2, 3, 4, 5] (by decide +kernel) (by decide +kernel) rfl ?_
  repeat first
    | refine Y_res (r_move rfl) rfl ?_
    | refine Y_res (r_field' rfl) rfl ?_
    | refine Y_res (r_nilCheck rfl) rfl ?_
    | refine Y_res (r_loadB rfl rfl) rfl ?_
  refine XQ_nodeE ?_
  refine TE_one 6 (by decide +kernel) rfl rfl ?_
  refine X_tells (g := 29) (E := 5) (k := .u8) (z := b) rfl rfl (fun w1 hM => clone_any b B c w1 (hr (WlC gl g l a (PlC g pc (syncP q).1 [])) w1 hM) (by omega)) ?_
  intro Bn cb y hy
  subst hy
  repeat first
    | refine X_nil ?_
    | refine XT_only ?_
  refine XT_nodeE (fun _ h => Hp.sublist h (.cons _ (.cons_cons _ (List.nil_sublist _)))) ?_
  refine TE_one 7 (by decide +kernel) rfl rfl ?_
  refine X_buildV rfl rfl (fun u hu => by simp at hu; rw [hu]; rfl) rfl (by simp) rfl (fun g9 hg9 => ?_)
  repeat first
    | refine X_nil ?_
    | refine XT_only ?_
  refine XT_nodeE (fun _ h => Hp.sublist h (.cons _ (.cons _ (.cons_cons _ (List.nil_sublist _))))) ?_
  refine TE_one 8 (by decide +kernel) rfl rfl ?_
  refine X_appendV (s := 1) rfl rfl (fun w_ hM => rdv_blk (r := []) hM.head (List.append_nil _).symm rfl (Nat.le_refl 1) (by decide)) (fun u hu => by simp at hu; rw [hu]; rfl) rfl (by decide) rfl rfl (by omega) (by omega) rfl ?_
  intro A4 c4
  repeat first
    | refine X_nil ?_
    | refine XT_only ?_
  refine XT_nodeE (fun _ h => Hp.sublist h (.cons _ (.cons _ (.cons_cons _ (List.nil_sublist _))))) ?_
  refine TE_reads [9, 10] (by decide +kernel) (by decide +kernel) rfl ?_
  repeat first
    | refine Y_res (r_field' rfl) rfl ?_
    | refine Y_res (r_nilCheck rfl) rfl ?_
  refine XQ_nodeE ?_
  refine TE_tail 11 (by decide +kernel) rfl rfl ?_
  refine X_storeB (i := 6) rfl rfl rfl (by simp) ?_
  repeat first
    | refine X_nil ?_
    | refine XT_only ?_
  refine XT_nodeW (TN_end (by decide +kernel) ?_)
  repeat first
    | refine XC_region ?_
    | refine XC_hoist [1] [0, 2, 3, 4, 5, 6, 7, 8, 9, 10, 11, 13, 14] [12] 15 (by kernel_rfl) (by decide +kernel) drw_hp rfl rfl rfl rfl ?_
    | refine X_nil ?_
    | refine XQ_nilH ?_
    | refine XQ_nilT ?_
    | refine XT_only ?_
    | refine XC_seq ?_
    | refine XT_seq ?_
    | refine XC_ret ?_
    | refine Y_res (r_move rfl) rfl ?_
    | refine Y_res (r_assign rfl) rfl ?_
    | refine Y_res (r_add64 rfl rfl (by omega)) rfl ?_
    | refine Y_res (r_field' rfl) rfl ?_
    | refine Y_res (r_nilCheck rfl) rfl ?_
    | refine Y_res (r_loadB rfl rfl) rfl ?_
    | refine X_storeB rfl rfl rfl (by simp) ?_
  refine XT_ret1 (.inl rfl) Try.results12 rfl (fun w' h => ⟨⟨A4, c4, a.js ++ [itI .u8 Bn cb y]⟩, pc, rfl, ?_, hj.snoc Bn cb y⟩)
  dsimp only
  rw [e1]
  exact wl_add (Hp.sublist h (.cons _ (List.Sublist.refl _)))
end
end Go.Proofs.Ytgfpibojgkleiaa.NWl
