/- WalOwn, walked: true at every input. -/
import Derived.Test.YtgfpibojgkleiaaNWlA
import Derived.Test.YtgfpibojgkleiaaNSame
namespace Go.Proofs.Ytgfpibojgkleiaa.NWl
open Go Go.RowKit Go.Proofs.Ytgfpibojgkleiaa.MX Go.Proofs.Ytgfpibojgkleiaa.PWal Go.Proofs.Ytgfpibojgkleiaa.NPl Go.Proofs.Ytgfpibojgkleiaa.NSame
set_option linter.unusedVariables false
set_option linter.unusedSimpArgs false
set_option linter.unusedVariables false
set_option maxRecDepth 100000 in
set_option maxHeartbeats 4000000 in
/-- The records of a log that has one. -/
theorem records1_any {gl g : Nat} {l : Lg} {a : La} {w w0 : World} {TS : Nat → Prop} {es : List Ch} {x : List Int} (hT : Hp w0 TS (WlC gl g l a es) w) (hj : JOk .u8 a.js l.list) (hl1 : l.list = [x]) (hxl : x.length ≤ 1000000) :
    Calls Try.prog 14 #[.pointer (some ⟨gl, 0, none⟩)] w fun e w' => ∃ A c B d, e = .returned (.slice A 1 c) ∧ Hp w0 TS (Ch.sv A c 30 1 1 [.slice B x.length d] :: Ch.sl B d 5 .u8 x :: WlC gl g l a es) w' := by
  have hjl := hj.ln
  obtain ⟨B, d, hB⟩ := hj.at_ 0 x (by rw [hl1]; rfl)
  have hv : (a.js.map It.val)[0]? = some (.slice B x.length d) := by rw [List.getElem?_map, hB]; rfl
  have hrd : ∀ w1, Hp w0 TS (WlC gl g l a es) w1 → Rds w1 B d .u8 x := fun w1 h => RdV.toS (bagN_rd (it := itI .u8 B d x) (h.tail.tail.head) (List.mem_of_getElem? hB))
  have hln : l.list.length = 1 := by rw [hl1]; rfl
  refine calls_of_X (vs := [_]) (M := Hp w0 TS (WlC gl g l a es)) Try.func14 rfl Try.ntmps14 rfl hT ?_
  clear hT
  unfold WlC lgC at hrd ⊢
  rw [hln] at hrd ⊢
  refine XC_mem (M' := Hp w0 TS (Ch.sv none 0 30 1 0 [] :: Ch.blk gl [.pointer (some ⟨g, 0, none⟩), .int .i64 l.at_, .int .i64 l.to, .int .i64 l.gen, .int .i64 l.op, .int .i64 l.nx, .slice a.A 1 a.c, .bool l.broken] _ :: Ch.sv a.A a.c 30 1 1 (a.js.map It.val) :: Ch.bagN a.js :: es)) (fun _ h => h.nilV _ _) ?_
  repeat first
    | refine XC_region ?_
    | refine X_nil ?_
    | refine XC_seq ?_
    | refine XT_seq ?_
    | refine XC_block ?_
    | refine Y_res (r_move rfl) rfl ?_
    | refine Y_res (r_assign rfl) rfl ?_
    | refine Y_res (r_len rfl) rfl ?_
    | refine Y_res (r_field' rfl) rfl ?_
    | refine Y_res (r_nilCheck rfl) rfl ?_
    | refine Y_res (r_loadB rfl rfl) rfl ?_
  refine XC_rounds 2 ?_
  refine XR_succ ?_
  repeat first
    | refine XC_region ?_
    | refine X_nil ?_
    | refine XC_condT rfl ?_
    | refine XC_seq ?_
    | refine XT_seq ?_
    | refine XC_block ?_
    | refine XC_skip ?_
    | refine Y_res (r_move rfl) rfl ?_
    | refine Y_res (r_assign rfl) rfl ?_
    | refine Y_res (r_lss rfl rfl) rfl ?_
    | refine Y_res (r_indexV0 (i := 0) rfl rfl (by decide) (Nat.le_refl _)) rfl ?_
    | refine Y_res (r_loadV (i := 0) rfl hv) rfl ?_
  refine X_tells (g := 29) (E := 5) (k := .u8) (z := x) rfl rfl (fun w1 hM => clone_any x B d w1 (hrd w1 hM.tail) hxl) ?_
  intro B2 d2 y hy
  subst hy
  repeat first
    | refine XC_region ?_
    | refine X_nil ?_
    | refine XC_condF rfl ?_
    | refine XC_seq ?_
    | refine XT_seq ?_
    | refine XT_block_normal ?_
    | refine XT_block_same rfl ?_
    | refine XT_then_exit ?_
    | refine XC_exit ?_
    | refine XC_ret ?_
    | refine Y_res (r_move rfl) rfl ?_
    | refine Y_res (r_assign rfl) rfl ?_
    | refine Y_res (r_add64 rfl rfl (by omega)) rfl ?_
    | refine Y_res (r_lss rfl rfl) rfl ?_
    | (refine X_buildV rfl rfl (fun u hu => by simp at hu; rw [hu]; rfl) rfl (by simp) rfl ?_; intro _ _)
    | (refine X_appendV (s := 1) rfl rfl (fun w_ hM => rdv_blk (r := []) hM.head (List.append_nil _).symm rfl (Nat.le_refl 1) (by decide)) (fun u hu => by simp at hu; rw [hu]; rfl) rfl (by decide) rfl rfl (by decide) (by decide) rfl ?_; intro _ _)
  rename_i g9 hg9 A4 c4
  exact XT_ret1 (.inl rfl) Try.results14 rfl (fun w' h => ⟨A4, c4, B2, d2, rfl, (h.tail).swap⟩)
set_option maxRecDepth 100000 in
set_option maxHeartbeats 8000000 in
theorem own_law (b : List Int) (A : Option Addr) (c : Nat) (w : World) (hr : Rds w A c .u8 b) (hwf : ∀ n ∈ b, (Lit.int .u8 n).wf = true) :
    Calls Try.prog 4 #[.slice A b.length c] w fun e w' => e = .returned (.bool true) ∧ Chg (fun _ => False) w w' := by
  have hle := hr.le
  have hcap := hr.cap
  have hb8 : ∀ x ∈ b, 0 ≤ x ∧ x < 256 := fun x hx => wf8 (hwf x hx)
  refine calls_of_X (Rr := Says w (.bool true)) (vs := [_]) (M := Hp w (fun _ => False) []) Try.func4 rfl Try.ntmps4 rfl (Hp.nil _ _) ?_
  repeat first
    | refine XC_region ?_
    | refine X_nil ?_
    | refine XC_condF rfl ?_
    | refine XC_seq ?_
    | refine XT_seq ?_
    | refine XC_skip ?_
    | refine Y_res (r_move rfl) rfl ?_
    | refine Y_res (r_assign rfl) rfl ?_
    | refine Y_res (r_gtr rfl rfl) rfl ?_
    | refine Y_res (r_notB rfl) rfl ?_
    | refine Y_res (r_len rfl) rfl ?_
    | refine Y_says (g := 9) rfl rfl (fun w1 hM => anchor_any w1) ?_
  refine XC_condP rfl (fun h4 => ?_) (fun h4 => ?_)
  · repeat first
      | refine XC_region ?_
      | refine X_nil ?_
      | refine XC_seq ?_
      | refine XT_seq ?_
      | refine XT_then_ret ?_
      | refine XC_ret ?_
      | refine Y_res (r_assign rfl) rfl ?_
    exact XT_says (.inl rfl) Try.results4 rfl rfl
  have hb1000 : b.length ≤ 1000 := by omega
  repeat first
    | refine XC_region ?_
    | refine XC_seq ?_
    | refine XT_seq ?_
    | refine XC_skip ?_
  refine X_call (g := 10) rfl rfl (fun w1 q1 => (new_es 64 q1 (by decide) (by decide)).mono ?_)
  rintro e w2 ⟨g, pa, rfl, q2⟩
  refine ⟨_, rfl, _, q2, ?_⟩
  clear q1 q2
  have hu := upp_new (n := 64) (by decide) (by decide)
  have hg : ∀ i, (rdS (nowAt (new0 64) i)).gen ≠ 1 := fun i => new_gen (by decide)
  have hn8 : (new0 64).n = 64 := rfl
  generalize new0 64 = p at *
  repeat first
    | refine XC_region ?_
    | refine X_nil ?_
    | refine XC_condF rfl ?_
    | refine XC_seq ?_
    | refine XT_seq ?_
    | refine XC_skip ?_
    | refine Y_res (r_move rfl) rfl ?_
    | refine Y_res (r_assign rfl) rfl ?_
    | refine Y_res (r_eqlNil rfl rfl) rfl ?_
  refine X_call (g := 11) rfl rfl (fun w1 q1 => (open_any 0 64 1 q1 hu.ok hu.dn hu.wf (by decide) (by omega) (by decide)).mono ?_)
  rintro e w2 ⟨gl, a, rfl, q2, hj⟩
  have eo : openP (nowAt p) 0 64 1 = ⟨0, 64, 1, 1, 1, [], false⟩ := open_none (fun i _ _ => hg i) (by decide)
  rw [eo] at q2 hj
  refine ⟨_, rfl, _, q2, ?_⟩
  clear q1 q2 eo hg
  have h0 : Go1 p ⟨0, 64, 1, 1, 1, [], false⟩ a := ⟨hu, ⟨by decide, by decide, by decide, by decide, by decide, by decide⟩, by decide, rfl, by dsimp only; omega, hj⟩
  have hnd : needs b.length ≤ 64 := by unfold needs; omega
  obtain ⟨q, k1, k2, k3, k4⟩ := h0.next (b := b) (a' := a) hb8 (by omega) (by dsimp only; omega) (show (1 : Nat) ≤ 50000 by decide) (show (0 : Nat) ≤ 50000 by decide)
  have ez : (List.replicate (b.length + 40) (0 : Int)).take 0 ++ b ++ (List.replicate (b.length + 40) (0 : Int)).drop (0 + b.length) = b ++ List.replicate 40 0 := by
    rw [List.drop_replicate, show b.length + 40 - (0 + b.length) = 40 by omega]
    simp
  repeat first
    | refine XC_region ?_
    | refine X_nil ?_
    | refine XC_condF rfl ?_
    | refine XC_seq ?_
    | refine XT_seq ?_
    | refine XC_skip ?_
    | refine Y_res (r_move rfl) rfl ?_
    | refine Y_res (r_assign rfl) rfl ?_
    | refine Y_res (r_add64 rfl rfl (by omega)) rfl ?_
    | refine Y_res (r_neq rfl rfl) rfl ?_
    | refine Y_res (r_eqlNil rfl rfl) rfl ?_
    | refine Y_on rfl rfl ?_
    | refine Y_res (r_len rfl) rfl ?_
    | refine Y_res (r_extract rfl rfl) rfl ?_
    | refine Y_res (r_pickF rfl rfl) rfl ?_
    | (refine X_makeZ rfl rfl (by omega) (by omega) (by omega) rfl ?_; intro _ _)
  rename_i gz hgz
  refine X_appendIn (ys := b) rfl rfl (fun w1 hM => hr.old hM old_false) rfl (by omega) (by simp) rfl ?_
  rw [ez, show 0 + b.length = b.length from Nat.zero_add _]
  have hgiven : ∀ (ys : List Int), ys.length = b.length → ∀ w1, (Ch.ints gz .u8 (ys ++ List.replicate 40 0) 5).P w1 → Rds w1 (some ⟨gz, 0, none⟩) (b.length + 40) .u8 ys := fun ys hy w1 h => by
    have h1 := (rds_ints (c := b.length + 40) h (by simp; omega) (by omega)).take ys.length
    rwa [List.take_left] at h1
  repeat first
    | refine XC_region ?_
    | refine X_nil ?_
    | refine XC_seq ?_
    | refine XT_seq ?_
    | refine Y_res (r_move rfl) rfl ?_
    | refine Y_res (r_assign rfl) rfl ?_
  refine X_call (g := 12) rfl rfl (fun w1 q1 => (append_any b (some ⟨gz, 0, none⟩) (b.length + 40) (wp_in q1) h0.up.ok h0.ok h0.op (by omega) h0.ll (fun cs w1 h1 => hgiven b rfl w1 (h1.sat _ (List.mem_append_right _ (List.mem_cons_self ..)))) h0.js).mono ?_)
  rintro e w2 ⟨a1, pa1, rfl, q2, hj1⟩
  rw [k1] at q2 hj1 ⊢
  refine ⟨_, rfl, _, wp_out q2, ?_⟩
  clear q1 q2
  have h1 := k4 a1 hj1
  obtain ⟨l1, hl1⟩ : ∃ l1 : Lg, l1 = { at_ := 0 + needs b.length, to := 64, gen := 1, op := 1, nx := 1 + 1, list := [] ++ [b], broken := false } := ⟨_, rfl⟩
  have hll : l1.list = [b] := by rw [hl1]; rfl
  have hjs : JOk .u8 a1.js l1.list := by rw [hl1]; exact h1.js
  refine X_mem (M' := Hp w (fun _ => False) (Ch.ints gz .u8 (b ++ List.replicate 40 0) 5 :: WlC gl g l1 a1 (PlC g pa1 q []))) (fun _ h => by rw [hl1]; exact h) ?_
  clear k1 k4 h0 hl1 h1 hj hj1 ez
  repeat first
    | refine XC_region ?_
    | refine X_nil ?_
    | refine XC_condF rfl ?_
    | refine XC_seq ?_
    | refine XT_seq ?_
    | refine XC_block ?_
    | refine XC_skip ?_
    | refine Y_res (r_move rfl) rfl ?_
    | refine Y_res (r_neq rfl rfl) rfl ?_
    | refine Y_res (r_len rfl) rfl ?_
  refine XC_loop (ι := Nat × List Int) (fun j => j.1 ≤ b.length ∧ j.2.length = b.length) (fun j => [(0, .slice A b.length c), (4, .pointer (some ⟨gl, 0, none⟩)), (6, .slice (some ⟨gz, 0, none⟩) b.length (b.length + 40)), (43, .int .i64 b.length), (44, .int .i64 j.1)])
    (fun j => Hp w (fun _ => False) (Ch.ints gz .u8 (j.2 ++ List.replicate 40 0) 5 :: WlC gl g l1 a1 (PlC g pa1 q []))) (fun j => b.length - j.1) (0, b) ⟨Nat.zero_le _, rfl⟩ ⟨rfl, rfl, rfl, rfl, rfl, trivial⟩ (fun _ h => h) ?_
  rintro ⟨i, ys⟩ ⟨hi, hy⟩
  dsimp only at hi hy ⊢
  repeat first
    | refine XC_region ?_
    | refine X_nil ?_
    | refine XC_seq ?_
    | refine XT_seq ?_
    | refine Y_res (r_lss rfl rfl) rfl ?_
  refine XC_condP rfl (fun hlt => ?_) (fun hge => ?_)
  · have hi2 : i < b.length := by omega
    have hil : i < (ys ++ List.replicate 40 (0 : Int)).length := by rw [List.length_append]; omega
    repeat first
      | refine XC_region ?_
      | refine X_nil ?_
      | refine XC_seq ?_
      | refine XT_seq ?_
      | refine XC_block ?_
      | refine XT_block_normal ?_
      | refine XC_skip ?_
      | refine Y_res (r_move rfl) rfl ?_
      | refine Y_res (r_assign rfl) rfl ?_
      | refine Y_res (r_add64 rfl rfl (by omega)) rfl ?_
      | refine Y_res (r_xor rfl rfl) rfl ?_
      | refine Y_res (r_loadI rfl (by first | omega | (simp only [List.length_set, List.length_replicate]; omega))) rfl ?_
      | refine X_storeI rfl rfl (by first | omega | (simp only [List.length_set, List.length_replicate]; omega)) ?_
      | refine Y_res (r_indexB rfl rfl hi2) rfl ?_
    rw [List.set_append_left _ _ (by omega)]
    exact XT_round (i + 1, _) ⟨by dsimp only; omega, (List.length_set ..).trans hy⟩ (by dsimp only; omega) ⟨rfl, rfl, rfl, rfl, rfl, trivial⟩ (fun _ h => h)
  repeat first
    | refine XC_region ?_
    | refine XC_seq ?_
    | refine XT_seq ?_
    | refine XT_block_same rfl ?_
    | refine XT_then_exit ?_
    | refine XC_exit ?_
    | refine Y_res (r_move rfl) rfl ?_
  refine X_call (g := 14) rfl rfl (fun w1 q1 => (records1_any (gl := gl) (g := g) (l := l1) (a := a1) (es := Ch.ints gz .u8 (ys ++ List.replicate 40 0) 5 :: PlC g pa1 q []) (q1.of_perm (List.perm_middle (l₁ := WlC gl g l1 a1 [])).symm) hjs hll (by omega)).mono ?_)
  rintro e w2 ⟨A4, c4, B, d, rfl, q2⟩
  have q3 : Hp w (fun _ => False) (Ch.sv A4 c4 30 1 1 [.slice B b.length d] :: Ch.sl B d 5 .u8 b :: Ch.ints gz .u8 (ys ++ List.replicate 40 0) 5 :: WlC gl g l1 a1 (PlC g pa1 q [])) w2 := q2.of_perm (List.Perm.cons _ (List.Perm.cons _ (List.perm_middle (l₁ := WlC gl g l1 a1 []))))
  refine ⟨_, rfl, _, q3, ?_⟩
  clear q1 q2 q3
  repeat first
    | refine XC_region ?_
    | refine X_nil ?_
    | refine XC_condF rfl ?_
    | refine XC_seq ?_
    | refine XT_seq ?_
    | refine XC_block ?_
    | refine XC_skip ?_
    | refine Y_res (r_move rfl) rfl ?_
    | refine Y_res (r_assign rfl) rfl ?_
    | refine Y_res (r_neq rfl rfl) rfl ?_
    | refine Y_on rfl rfl ?_
    | refine Y_res (r_notB rfl) rfl ?_
    | refine Y_res (r_len rfl) rfl ?_
    | refine Y_res (r_pickF rfl rfl) rfl ?_
    | refine Y_res (r_indexV0 (i := 0) rfl rfl (by decide) (Nat.le_refl _)) rfl ?_
    | refine Y_res (r_loadV (i := 0) rfl rfl) rfl ?_
    | (refine Y_says (g := 15) rfl rfl (fun w1 hM => same_any b b B A d c w1 (rds_sl hM.tail.head) (hr.old hM old_false)) ?_; rw [decide_eq_true (rfl : b = b)])
  refine XC_loop (ι := Nat × List Int) (fun j => j.1 ≤ b.length ∧ j.2.length = b.length) (fun j => [(0, .slice A b.length c), (4, .pointer (some ⟨gl, 0, none⟩)), (6, .slice (some ⟨gz, 0, none⟩) b.length (b.length + 40)), (8, .slice A4 1 c4), (70, .int .i64 b.length), (71, .int .i64 j.1)])
    (fun j => Hp w (fun _ => False) (Ch.sv A4 c4 30 1 1 [.slice B b.length d] :: Ch.sl B d 5 .u8 j.2 :: Ch.ints gz .u8 (ys ++ List.replicate 40 0) 5 :: WlC gl g l1 a1 (PlC g pa1 q []))) (fun j => b.length - j.1) (0, b) ⟨Nat.zero_le _, rfl⟩ ⟨rfl, rfl, rfl, rfl, rfl, rfl, trivial⟩ (fun _ h => h) ?_
  rintro ⟨i2, zs⟩ ⟨hi, hz⟩
  dsimp only at hi hz ⊢
  repeat first
    | refine XC_region ?_
    | refine X_nil ?_
    | refine XC_seq ?_
    | refine XT_seq ?_
    | refine Y_res (r_lss rfl rfl) rfl ?_
  refine XC_condP rfl (fun hlt => ?_) (fun hge => ?_)
  · have hi2 : i2 < b.length := by omega
    repeat first
      | refine XC_region ?_
      | refine X_nil ?_
      | refine XC_seq ?_
      | refine XT_seq ?_
      | refine XC_block ?_
      | refine XT_block_normal ?_
      | refine XC_skip ?_
      | refine Y_res (r_move rfl) rfl ?_
      | refine Y_res (r_assign rfl) rfl ?_
      | refine Y_res (r_add64 rfl rfl (by omega)) rfl ?_
      | refine Y_res (r_xor rfl rfl) rfl ?_
      | refine Y_res (r_indexS rfl rfl (by omega) (by first | omega | (simp only [List.length_set, List.length_replicate]; omega))) rfl ?_
      | refine Y_res (r_loadI rfl (by first | omega | (simp only [List.length_set, List.length_replicate]; omega))) rfl ?_
      | refine X_storeI rfl rfl (by first | omega | (simp only [List.length_set, List.length_replicate]; omega)) ?_
      | refine Y_res (r_indexV0 (i := 0) rfl rfl (by decide) (Nat.le_refl _)) rfl ?_
      | refine Y_res (r_loadV (i := 0) rfl rfl) rfl ?_
      | refine Y_res (r_indexS rfl rfl hi2 (by omega)) rfl ?_
      | refine Y_res (r_loadI rfl (by omega)) rfl ?_
      | refine X_storeI rfl rfl (by omega) ?_
    exact XT_round (i2 + 1, _) ⟨by dsimp only; omega, (List.length_set ..).trans hz⟩ (by dsimp only; omega) ⟨rfl, rfl, rfl, rfl, rfl, rfl, trivial⟩ (fun _ h => h)
  have hcut : cutA (some ⟨gz, 0, none⟩) b.length (b.length + 40) 1 = some ⟨gz, b.length, none⟩ := by
    rw [cutA, if_neg (by omega)]
    simp [add_mk]
  repeat first
    | refine XC_region ?_
    | refine X_nil ?_
    | refine XC_seq ?_
    | refine XT_seq ?_
    | refine XC_block ?_
    | refine XT_block_same rfl ?_
    | refine XT_then_exit ?_
    | refine XC_exit ?_
    | refine Y_res (r_move rfl) rfl ?_
    | refine Y_res (r_assign rfl) rfl ?_
    | refine Y_res (r_len rfl) rfl ?_
    | refine Y_res (r_cap rfl) rfl ?_
    | refine Y_res (r_cutLH rfl rfl rfl (by omega) (by omega)) rfl ?_
  refine XC_loop (ι := Nat) (fun j => j ≤ 40) (fun j => [(0, .slice A b.length c), (4, .pointer (some ⟨gl, 0, none⟩)), (89, .slice (cutA (some ⟨gz, 0, none⟩) b.length (b.length + 40) 1) (b.length + 40 - b.length) (b.length + 40 - b.length)), (90, .int .i64 ((b.length + 40 - b.length : Nat) : Int)), (91, .int .i64 j)])
    (fun j => Hp w (fun _ => False) (Ch.ints gz .u8 (ys ++ List.replicate 40 0) 5 :: WlC gl g l1 a1 (PlC g pa1 q []))) (fun j => 40 - j) 0 (Nat.zero_le _) ⟨rfl, rfl, rfl, rfl, rfl, trivial⟩ (fun _ h => h.tail.tail) ?_
  intro j hj
  repeat first
    | refine XC_region ?_
    | refine X_nil ?_
    | refine XC_seq ?_
    | refine XT_seq ?_
    | refine Y_res (r_lss rfl rfl) rfl ?_
  refine XC_condP rfl (fun hlt3 => ?_) (fun hge3 => ?_)
  · have hj2 : j < 40 := by omega
    repeat first
      | refine XC_region ?_
      | refine X_nil ?_
      | refine XC_condF rfl ?_
      | refine XC_seq ?_
      | refine XT_seq ?_
      | refine XC_block ?_
      | refine XT_block_normal ?_
      | refine XC_skip ?_
      | refine Y_res (r_move rfl) rfl ?_
      | refine Y_res (r_assign rfl) rfl ?_
      | refine Y_res (r_add64 rfl rfl (by omega)) rfl ?_
      | refine Y_res (r_neq rfl rfl) rfl ?_
      | refine Y_res (r_indexO rfl rfl (by omega) hcut) rfl ?_
      | refine Y_res (r_load (v := .int .u8 0) rfl (fun w1 hM => by
          rw [add_mk]
          exact Hp.blk_cell hM (List.mem_cons_self ..) (by
            rw [List.getElem?_map, List.getElem?_append_right (by omega), List.getElem?_replicate, if_pos (by omega)]
            rfl))) rfl ?_
    exact XT_round (j + 1) (by omega) (by omega) ⟨rfl, rfl, rfl, rfl, rfl, trivial⟩ (fun _ h => h)
  repeat first
    | refine XC_region ?_
    | refine XC_seq ?_
    | refine XT_seq ?_
    | refine XT_block_same rfl ?_
    | refine XT_then_exit ?_
    | refine XC_exit ?_
    | refine Y_res (r_move rfl) rfl ?_
  refine X_call (g := 14) rfl rfl (fun w1 q1 => (records1_any (gl := gl) (g := g) (l := l1) (a := a1) (es := Ch.ints gz .u8 (ys ++ List.replicate 40 0) 5 :: PlC g pa1 q []) (q1.of_perm (List.perm_middle (l₁ := WlC gl g l1 a1 [])).symm) hjs hll (by omega)).mono ?_)
  rintro e w2 ⟨A5, c5, B5, d5, rfl, q2⟩
  refine ⟨_, rfl, _, q2, ?_⟩
  clear q1 q2
  repeat first
    | refine XC_region ?_
    | refine X_nil ?_
    | refine XC_seq ?_
    | refine XT_seq ?_
    | refine XC_ret ?_
    | refine Y_res (r_move rfl) rfl ?_
    | refine Y_res (r_assign rfl) rfl ?_
    | refine Y_res (r_eql rfl rfl) rfl ?_
    | refine Y_on rfl rfl ?_
    | refine Y_res (r_len rfl) rfl ?_
    | refine Y_res (r_pickT rfl rfl) rfl ?_
    | refine Y_res (r_indexV0 (i := 0) rfl rfl (by decide) (Nat.le_refl _)) rfl ?_
    | refine Y_res (r_loadV (i := 0) rfl rfl) rfl ?_
    | (refine Y_says (g := 15) rfl rfl (fun w1 hM => same_any b b B5 A d5 c w1 (rds_sl hM.tail.head) (hr.old hM old_false)) ?_; rw [decide_eq_true (rfl : b = b)])
  exact XT_says (.inl rfl) Try.results4 rfl rfl
end Go.Proofs.Ytgfpibojgkleiaa.NWl
