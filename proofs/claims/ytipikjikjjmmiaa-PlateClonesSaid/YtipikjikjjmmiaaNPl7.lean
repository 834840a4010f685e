/- The document's disk: where it lies; made, stepped, written: walked. -/
import Derived.Test.YtipikjikjjmmiaaNPl5
import Derived.Test.YtipikjikjjmmiaaMXD
namespace Go.Proofs.Ytipikjikjjmmiaa.NPl
open Go Go.RowKit Go.Proofs.Ytipikjikjjmmiaa.MX
set_option linter.unusedVariables false
set_option linter.unusedSimpArgs false
set_option linter.unusedVariables false
/-- Where the document's disk lies: its two rows. -/
structure Rd where
  As : Option Addr
  cs : Nat
  Lo : Option Addr
  lc : Nat
def it0 : It := ⟨none, 0, 0, []⟩
def rwC (x : Nat × It) : List Value := [.int .i64 x.1, x.2.val]
def RfC (g : Nat) (a : Rd) (p : Pl) (si : List It) (li : List (Nat × It)) (es : List Ch) : List Ch :=
  Ch.blk g [.int .i64 p.n, .slice a.As p.n a.cs, .slice a.Lo p.loose.length a.lc, .int .i64 p.left, .bool p.down] 47 ::
   Ch.sv a.As a.cs 22 1 p.n (si.map It.val) :: Ch.sv a.Lo a.lc 69 2 p.loose.length (li.map rwC).flatten :: Ch.bagN (si ++ li.map (·.2)) :: es
/-- What its rows hold. -/
structure RfOk (p : Pl) (si : List It) (li : List (Nat × It)) : Prop where
  sl : si.length = p.n
  ll : li.length = p.loose.length
  sa : ∀ (i : Nat) it s, si[i]? = some it → p.safe[i]? = some s → (it = it0 ∧ s = List.replicate 64 0) ∨ ∃ B d, it = itI .u8 B d s
  la : ∀ (i : Nat) y x, li[i]? = some y → p.loose[i]? = some x → y.1 = x.1 ∧ ∃ B d, y.2 = itI .u8 B d x.2
theorem rwC_len {li : List (Nat × It)} : ∀ x ∈ li.map rwC, x.length = 2 := fun x hx => by
  obtain ⟨y, _, rfl⟩ := List.mem_map.1 hx
  rfl
/-- A bag of rows of nothing. -/
theorem Hp_bagNil {w0 w : World} {S : Nat → Prop} {cs : List Ch} {its jts : List It} (h : Hp w0 S (Ch.bagN its :: cs) w) (hn : ∀ it ∈ jts, it ∈ its ∨ it = it0) : Hp w0 S (Ch.bagN jts :: cs) w := by
  obtain ⟨hs1, hs2⟩ := List.pairwise_cons.1 h.sep
  have hsub : ∀ k, (Ch.bagN jts).fp k → (Ch.bagN its).fp k := fun k ⟨it, hit, hv, a, ha, hb⟩ => by
    rcases hn it hit with h1 | rfl
    · exact ⟨it, h1, hv, a, ha, hb⟩
    · exact absurd rfl hv
  refine ⟨h.chg, fun x hx => ?_, fun x hx k hk => ?_, .cons (fun x hx k hk hxk => hs1 x hx k (hsub k hk) hxk) hs2⟩
  · rcases List.mem_cons.1 hx with rfl | hx
    · intro it hit
      rcases hn it hit with h1 | rfl
      · exact h.head it h1
      · exact ⟨Nat.le_refl _, by decide, fun _ => rfl, rfl, fun j v hj => by simp [it0] at hj⟩
    · exact h.sat x (List.mem_cons_of_mem _ hx)
  · rcases List.mem_cons.1 hx with rfl | hx
    · exact h.own _ (List.mem_cons_self ..) k (hsub k hk)
    · exact h.own x (List.mem_cons_of_mem _ hx) k hk
set_option maxHeartbeats 1000000 in
theorem rnew_out (m : Int) (w : World) (hm : ¬ (8 ≤ m ∧ m ≤ 16384)) : Calls Try.prog 16 #[.int .i64 m] w (Says w (.tuple #[.pointer none, .bool false])) := by
  refine calls_of_X (vs := [_]) (M := Hp w (fun _ => False) []) Try.func16 rfl Try.ntmps16 rfl (Hp.nil _ _) ?_
  repeat first
    | refine XC_region ?_
    | refine X_nil ?_
    | refine XC_seq ?_
    | refine XT_seq ?_
    | refine Y_res (r_move rfl) rfl ?_
    | refine Y_res (r_assign rfl) rfl ?_
    | refine Y_res (r_lss rfl rfl) rfl ?_
  refine Y_split rfl rfl (fun h1 => ?_) (fun h1 => ?_)
  · repeat first
      | refine XC_region ?_
      | refine X_nil ?_
      | refine XC_condT rfl ?_
      | refine XC_seq ?_
      | refine XT_seq ?_
      | refine XT_then_ret ?_
      | refine XC_ret ?_
      | refine Y_res (r_assign rfl) rfl ?_
      | refine Y_off rfl rfl rfl ?_
      | refine Y_res (r_pickT rfl rfl) rfl ?_
    exact XT_ret2 (.inl rfl) Try.results16 rfl rfl (fun w' h => ⟨rfl, h.chg⟩)
  repeat first
    | refine X_nil ?_
    | refine XT_seq ?_
    | refine Y_res (r_move rfl) rfl ?_
    | refine Y_res (r_gtr rfl rfl) rfl ?_
    | refine Y_on rfl rfl ?_
    | refine Y_res (r_pickF rfl rfl) rfl ?_
  refine XC_condP rfl (fun h2 => ?_) (fun h2 => ?_)
  · repeat first
      | refine XC_region ?_
      | refine X_nil ?_
      | refine XC_seq ?_
      | refine XT_seq ?_
      | refine XT_then_ret ?_
      | refine XC_ret ?_
      | refine Y_res (r_assign rfl) rfl ?_
    exact XT_ret2 (.inl rfl) Try.results16 rfl rfl (fun w' h => ⟨rfl, h.chg⟩)
  · exact absurd ⟨by omega, by omega⟩ hm
theorem rfok_new (n : Nat) : RfOk (new0 n) (List.replicate n it0) [] :=
  ⟨by simp [new0], rfl, fun i it s h1 h2 => .inl ⟨List.eq_of_mem_replicate (List.mem_of_getElem? h1), List.eq_of_mem_replicate (List.mem_of_getElem? h2)⟩, fun i y x h => by simp at h⟩
set_option maxHeartbeats 2000000 in
theorem rnew_in (n : Nat) (w : World) (h1 : 8 ≤ n) (h2 : n ≤ 16384) : Calls Try.prog 16 #[.int .i64 n] w fun e w' => ∃ g a, e = .returned (.tuple #[.pointer (some ⟨g, 0, none⟩), .bool true]) ∧ Hp w (fun _ => False) (RfC g a (new0 n) (List.replicate n it0) [] []) w' := by
  refine calls_of_X (vs := [_]) (M := Hp w (fun _ => False) []) Try.func16 rfl Try.ntmps16 rfl (Hp.nil _ _) ?_
  repeat first
    | refine XC_region ?_
    | refine X_nil ?_
    | refine XC_seq ?_
    | refine XT_seq ?_
    | refine Y_res (r_move rfl) rfl ?_
    | refine Y_res (r_assign rfl) rfl ?_
    | refine Y_res (r_lss rfl rfl) rfl ?_
  refine Y_splitF rfl rfl (by omega) ?_
  repeat first
    | refine X_nil ?_
    | refine XT_seq ?_
    | refine Y_res (r_move rfl) rfl ?_
    | refine Y_res (r_gtr rfl rfl) rfl ?_
    | refine Y_on rfl rfl ?_
    | refine Y_res (r_pickF rfl rfl) rfl ?_
  refine XC_condP rfl (fun h3 => ?_) (fun h3 => ?_)
  · exact absurd h3 (by omega)
  repeat first
    | refine XC_region ?_
    | refine XC_seq ?_
    | refine XT_seq ?_
    | refine XC_skip ?_
    | refine Y_res (r_move rfl) rfl ?_
    | (refine X_makeV rfl rfl rfl (by omega) (by omega) (by omega) rfl ?_; intro g1 hg1)
  refine Y_res (r_buildX (v := .agg [.int .i64 n, .slice (some ⟨g1, 0, none⟩) n n, .slice none 0 0, .int .i64 (-1), .bool false].toArray) rfl (fun w => by kernel_rfl)) rfl ?_
  skip
  refine X_boxA (vs := [.int .i64 n, .slice (some ⟨g1, 0, none⟩) n n, .slice none 0 0, .int .i64 (-1), .bool false]) rfl rfl (fun g hg => ?_)
  repeat first
    | refine X_nil ?_
    | refine XT_seq ?_
    | refine XC_ret ?_
    | refine Y_res (r_assign rfl) rfl ?_
  refine XT_ret2 (.inl rfl) Try.results16 rfl rfl (fun w' h => ⟨g, ⟨some ⟨g1, 0, none⟩, n, none, 0⟩, rfl, ?_⟩)
  have h4 := ((h.nilV 69 2).of_perm (List.perm_append_comm (l₁ := [Ch.sv none 0 69 2 0 []]) (l₂ := [_, _]))).bagN0
  have e1 : (List.replicate n it0).map It.val = List.replicate n (.slice none 0 0) := by rw [List.map_replicate]; rfl
  have h5 := Hp_bagNil (jts := List.replicate n it0 ++ []) h4 (fun it hit => by
      rw [List.append_nil] at hit
      exact .inr (List.eq_of_mem_replicate hit))
  rw [RfC, e1]
  exact h5.of_perm (List.perm_append_comm (l₁ := [Ch.bagN _]) (l₂ := [_, _, _]))
section
variable {g : Nat} {a : Rd} {p : Pl} {w w0 : World} {TS : Nat → Prop} {es : List Ch} {si : List It} {li : List (Nat × It)}
set_option maxHeartbeats 2000000 in
theorem rstep_any (hT : Hp w0 TS (RfC g a p si li es) w) (hp : PlOk p) : Calls Try.prog 32 #[.pointer (some ⟨g, 0, none⟩)] w fun e w' => e = .returned (.bool (stepP p).2) ∧ Hp w0 TS (RfC g a (stepP p).1 si li es) w' := by
  have hl := hp.lf
  refine calls_of_X (vs := [_]) (M := Hp w0 TS (RfC g a p si li es)) Try.func32 rfl Try.ntmps32 rfl hT ?_
  unfold RfC
  repeat first
    | refine XC_region ?_
    | refine X_nil ?_
    | refine XC_seq ?_
    | refine XT_seq ?_
    | refine Y_res (r_move rfl) rfl ?_
    | refine Y_res (r_assign rfl) rfl ?_
    | refine Y_res (r_eql rfl rfl) rfl ?_
    | refine Y_res (r_field' rfl) rfl ?_
    | refine Y_res (r_nilCheck rfl) rfl ?_
    | refine Y_res (r_loadB rfl rfl) rfl ?_
  refine XC_condP rfl (fun h1 => ?_) (fun h1 => ?_)
  · have e1 : stepP p = ({ p with down := true }, false) := by rw [stepP, if_neg (by omega), if_pos h1]
    rw [e1]
    repeat first
      | refine XC_region ?_
      | refine X_nil ?_
      | refine XC_seq ?_
      | refine XT_seq ?_
      | refine Y_res (r_move rfl) rfl ?_
      | refine Y_res (r_gtr rfl rfl) rfl ?_
      | refine Y_res (r_field' rfl) rfl ?_
      | refine Y_res (r_nilCheck rfl) rfl ?_
      | refine Y_res (r_loadB rfl rfl) rfl ?_
      | refine X_storeB rfl rfl rfl (by simp) ?_
    refine XC_condP rfl (fun h2 => absurd h2 (by omega)) (fun h2 => ?_)
    repeat first
      | refine XC_region ?_
      | refine X_nil ?_
      | refine XC_seq ?_
      | refine XT_seq ?_
      | refine XC_skip ?_
      | refine XC_ret ?_
      | refine Y_res (r_move rfl) rfl ?_
      | refine Y_res (r_assign rfl) rfl ?_
      | refine Y_res (r_notB rfl) rfl ?_
      | refine Y_res (r_field' rfl) rfl ?_
      | refine Y_res (r_nilCheck rfl) rfl ?_
      | refine Y_res (r_loadB rfl rfl) rfl ?_
    exact XT_ret1 (.inl rfl) Try.results32 rfl (fun w' h => ⟨rfl, h⟩)
  repeat first
    | refine XC_region ?_
    | refine X_nil ?_
    | refine XC_seq ?_
    | refine XT_seq ?_
    | refine XC_skip ?_
    | refine Y_res (r_move rfl) rfl ?_
    | refine Y_res (r_gtr rfl rfl) rfl ?_
    | refine Y_res (r_field' rfl) rfl ?_
    | refine Y_res (r_nilCheck rfl) rfl ?_
    | refine Y_res (r_loadB rfl rfl) rfl ?_
  refine XC_condP rfl (fun h2 => ?_) (fun h2 => ?_)
  · have e1 : stepP p = ({ p with left := p.left - 1 }, !p.down) := if_pos h2
    rw [e1]
    repeat first
      | refine XC_region ?_
      | refine X_nil ?_
      | refine XC_seq ?_
      | refine XT_seq ?_
      | refine XC_ret ?_
      | refine Y_res (r_move rfl) rfl ?_
      | refine Y_res (r_assign rfl) rfl ?_
      | refine Y_res (r_sub64 rfl rfl (by omega)) rfl ?_
      | refine Y_res (r_notB rfl) rfl ?_
      | refine Y_res (r_field' rfl) rfl ?_
      | refine Y_res (r_nilCheck rfl) rfl ?_
      | refine Y_res (r_loadB rfl rfl) rfl ?_
      | refine X_storeB rfl rfl rfl (by simp) ?_
    exact XT_ret1 (.inl rfl) Try.results32 rfl (fun w' h => ⟨rfl, h⟩)
  · have e1 : stepP p = (p, !p.down) := by rw [stepP, if_neg h2, if_neg h1]
    rw [e1]
    repeat first
      | refine XC_region ?_
      | refine X_nil ?_
      | refine XC_seq ?_
      | refine XT_seq ?_
      | refine XC_skip ?_
      | refine XC_ret ?_
      | refine Y_res (r_move rfl) rfl ?_
      | refine Y_res (r_assign rfl) rfl ?_
      | refine Y_res (r_notB rfl) rfl ?_
      | refine Y_res (r_field' rfl) rfl ?_
      | refine Y_res (r_nilCheck rfl) rfl ?_
      | refine Y_res (r_loadB rfl rfl) rfl ?_
    exact XT_ret1 (.inl rfl) Try.results32 rfl (fun w' h => ⟨rfl, h⟩)
set_option maxRecDepth 100000 in
set_option maxHeartbeats 4000000 in
theorem rwrite_any (i : Int) (b : List Int) (A : Option Addr) (c : Nat) (hT : Hp w0 TS (RfC g a p si li es) w) (hp : PlOk p) (hf : RfOk p si li) (hll : p.loose.length ≤ 10000) (hr : ∀ (cs : List Ch) w1, Hp w0 TS (cs ++ es) w1 → Rds w1 A c .u8 b) :
    Calls Try.prog 28 #[.pointer (some ⟨g, 0, none⟩), .int .i64 i, .slice A b.length c] w fun e w' => ∃ a' li', e = .returned (.int .i64 (writeP p i b).2) ∧ Hp w0 TS (RfC g a' (writeP p i b).1 si li' es) w' ∧ RfOk (writeP p i b).1 si li' := by
  refine calls_of_X (vs := [_, _, _]) (M := Hp w0 TS (RfC g a p si li es)) Try.func28 rfl Try.ntmps28 rfl hT ?_
  have hT2 : ∀ w, Hp w0 TS (RfC g a p si li es) w → Hp w0 TS (RfC g a p si li es) w := fun _ h => h
  have hcb := (hr [_, _, _, _] _ hT).le
  unfold RfC at hT2 ⊢
  repeat first
    | refine XC_region ?_
    | refine X_nil ?_
    | refine XC_seq ?_
    | refine XT_seq ?_
    | refine Y_res (r_move rfl) rfl ?_
    | refine Y_res (r_assign rfl) rfl ?_
    | refine Y_res (r_field' rfl) rfl ?_
    | refine Y_res (r_nilCheck rfl) rfl ?_
    | refine Y_res (r_loadB rfl rfl) rfl ?_
  refine XC_cond rfl (fun h1 => ?_) (fun h1 => ?_)
  · have e1 : writeP p i b = (p, 50) := by
      have h2 : thereP p i = 50 := by rw [thereP, if_pos h1]
      rw [writeP, if_pos (by rw [h2]; decide), h2]
    rw [e1]
    repeat first
      | refine XC_region ?_
      | refine X_nil ?_
      | refine XC_seq ?_
      | refine XT_seq ?_
      | refine XT_then_ret ?_
      | refine XC_ret ?_
      | refine Y_res (r_assign rfl) rfl ?_
    exact XT_ret1 (.inl rfl) Try.results28 rfl (fun w' h => ⟨a, li, rfl, h, hf⟩)
  have h51 : i < 0 ∨ (p.n : Int) ≤ i → writeP p i b = (p, 51) := fun h3 => by
    have h2 : thereP p i = 51 := by rw [thereP, if_neg (by simp [h1]), if_pos h3]
    rw [writeP, if_pos (by rw [h2]; decide), h2]
  repeat first
    | refine XC_region ?_
    | refine XC_seq ?_
    | refine XT_seq ?_
    | refine XC_skip ?_
    | refine Y_res (r_move rfl) rfl ?_
    | refine Y_res (r_lss rfl rfl) rfl ?_
  refine Y_split rfl rfl (fun h2 => ?_) (fun h2 => ?_)
  · rw [h51 (.inl h2)]
    repeat first
      | refine XC_region ?_
      | refine X_nil ?_
      | refine XC_condT rfl ?_
      | refine XC_seq ?_
      | refine XT_seq ?_
      | refine XT_then_ret ?_
      | refine XC_ret ?_
      | refine Y_res (r_move rfl) rfl ?_
      | refine Y_res (r_assign rfl) rfl ?_
      | refine Y_off rfl rfl rfl ?_
      | refine Y_res (r_pickT rfl rfl) rfl ?_
    exact XT_ret1 (.inl rfl) Try.results28 rfl (fun w' h => ⟨a, li, rfl, h, hf⟩)
  repeat first
    | refine Y_res (r_move rfl) rfl ?_
    | refine Y_res (r_geq rfl rfl) rfl ?_
    | refine Y_on rfl rfl ?_
    | refine Y_res (r_field' rfl) rfl ?_
    | refine Y_res (r_nilCheck rfl) rfl ?_
    | refine Y_res (r_loadB rfl rfl) rfl ?_
    | refine Y_res (r_pickF rfl rfl) rfl ?_
  refine Y_split rfl rfl (fun h3 => ?_) (fun h3 => ?_)
  · rw [h51 (.inr h3)]
    repeat first
      | refine XC_region ?_
      | refine X_nil ?_
      | refine XC_condT rfl ?_
      | refine XC_seq ?_
      | refine XT_seq ?_
      | refine XT_then_ret ?_
      | refine XC_ret ?_
      | refine Y_res (r_assign rfl) rfl ?_
      | refine Y_off rfl rfl rfl ?_
      | refine Y_res (r_pickT rfl rfl) rfl ?_
    exact XT_ret1 (.inl rfl) Try.results28 rfl (fun w' h => ⟨a, li, rfl, h, hf⟩)
  have ht : thereP p i = 0 := by rw [thereP, if_neg (by simp [h1]), if_neg (by omega)]
  repeat first
    | refine X_nil ?_
    | refine XT_seq ?_
    | refine Y_res (r_move rfl) rfl ?_
    | refine Y_res (r_neq rfl rfl) rfl ?_
    | refine Y_on rfl rfl ?_
    | refine Y_res (r_len rfl) rfl ?_
    | refine Y_res (r_pickF rfl rfl) rfl ?_
  refine XC_condP rfl (fun h4 => ?_) (fun h4 => ?_)
  · have e1 : writeP p i b = (p, 51) := by rw [writeP, if_neg (by rw [ht]; decide), if_pos (by omega)]
    rw [e1]
    repeat first
      | refine XC_region ?_
      | refine X_nil ?_
      | refine XC_seq ?_
      | refine XT_seq ?_
      | refine XT_then_ret ?_
      | refine XC_ret ?_
      | refine Y_res (r_assign rfl) rfl ?_
    exact XT_ret1 (.inl rfl) Try.results28 rfl (fun w' h => ⟨a, li, rfl, h, hf⟩)
  have hbl : b.length = 64 := by omega
  repeat first
    | refine XC_region ?_
    | refine XC_seq ?_
    | refine XT_seq ?_
    | refine XC_skip ?_
    | refine Y_res (r_move rfl) rfl ?_
  refine X_call (g := 32) rfl rfl (fun w3 q3 => (rstep_any (hT2 _ q3) hp).mono ?_)
  rintro e w4 ⟨rfl, q4⟩
  refine ⟨_, rfl, _, q4, ?_⟩
  clear q3 q4
  repeat first
    | refine X_nil ?_
    | refine XT_seq ?_
    | refine Y_res (r_notB rfl) rfl ?_
  obtain ⟨f1, f2, f3, f4⟩ := stepP_same p
  refine XC_condN rfl (fun h5 => ?_) (fun h5 => ?_)
  · have e1 : writeP p i b = ((stepP p).1, 50) := by rw [writeP, if_neg (by rw [ht]; decide), if_neg (by omega), if_pos h5]
    rw [e1]
    repeat first
      | refine XC_region ?_
      | refine X_nil ?_
      | refine XC_seq ?_
      | refine XT_seq ?_
      | refine XT_then_ret ?_
      | refine XC_ret ?_
      | refine Y_res (r_assign rfl) rfl ?_
    exact XT_ret1 (.inl rfl) Try.results28 rfl (fun w' h => ⟨a, li, rfl, h, ⟨by rw [f1]; exact hf.sl, by rw [f4]; exact hf.ll, by rw [f2]; exact hf.sa, by rw [f4]; exact hf.la⟩⟩)
  have e1 : writeP p i b = ({ (stepP p).1 with now := p.now.set i.toNat b, loose := p.loose ++ [(i.toNat, b)] }, 0) := by rw [writeP, if_neg (by rw [ht]; decide), if_neg (by omega), if_neg (by simp [h5])]
  rw [e1]
  clear e1
  obtain ⟨q, rfl⟩ : ∃ q : Nat, i = q := ⟨i.toNat, by omega⟩
  obtain ⟨p1, hp1⟩ : ∃ p1, p1 = (stepP p).1 := ⟨_, rfl⟩
  rw [← hp1] at f1 f2 f3 f4 ⊢
  have hll1 : p1.loose.length ≤ 10000 := by rw [f4]; exact hll
  unfold RfC
  repeat first
    | refine XC_seq ?_
    | refine XT_seq ?_
    | refine XC_skip ?_
  refine XC_held 14 (Hp w0 TS [Ch.blk g [.int .i64 p1.n, .slice a.As p1.n a.cs, .slice a.Lo p1.loose.length a.lc, .int .i64 p1.left, .bool p1.down] 47]) rfl drw_hp (fun _ h => h.hd) ?_
  refine TE_reads [0, 1, 2, 3, 4, 5, 7] (by decide +kernel) (by decide +kernel) rfl ?_
  repeat first
    | refine Y_res (r_move rfl) rfl ?_
    | refine Y_res (r_field' rfl) rfl ?_
    | refine Y_res (r_nilCheck rfl) rfl ?_
    | refine Y_res (r_loadB rfl rfl) rfl ?_
  refine XQ_nodeE ?_
  refine TE_one 6 (by decide +kernel) rfl rfl ?_
  refine X_buildE (s := 1) (by decide) rfl (fun g1 hg1 => ?_)
  repeat first
    | refine X_nil ?_
    | refine XT_only ?_
  refine XT_nodeE (fun _ h => h.tail.hd) ?_
  refine TE_one 8 (by decide +kernel) rfl rfl ?_
  refine X_appendV (s := 1) (ys := secC b) rfl rfl (fun w1 hM => (hr [_, _, _, _, _] w1 hM).toV) (secC_one b) rfl (by decide) rfl rfl (by omega) (by omega) rfl ?_
  intro B cB
  repeat first
    | refine X_nil ?_
    | refine XT_only ?_
  refine XT_nodeE (fun _ h => h.tail.hd) ?_
  refine TE_one 9 (by decide +kernel) rfl rfl ?_
  refine Y_res (r_buildX (v := .agg [.int .i64 q, .slice B (0 + b.length) cB].toArray) rfl (fun w => by kernel_rfl)) rfl ?_
  repeat first
    | refine X_nil ?_
    | refine XT_only ?_
  refine XT_nodeE (fun _ h => h.tail.hd) ?_
  refine TE_one 10 (by decide +kernel) rfl rfl ?_
  refine X_buildF1 (s := 2) (us := [.int .i64 q, .slice B (0 + b.length) cB]) rfl rfl rfl (by decide) (by decide) rfl (fun g2 hg2 => ?_)
  repeat first
    | refine X_nil ?_
    | refine XT_only ?_
  refine XT_nodeE (fun _ h => h.tail.tail.hd) ?_
  refine TE_one 11 (by decide +kernel) rfl rfl ?_
  refine X_appendV (s := 2) (ys := [.int .i64 q, .slice B (0 + b.length) cB]) rfl rfl (fun w_ hM => rdv_blk (r := []) hM.head (List.append_nil _).symm rfl (Nat.le_refl 1) (by decide)) (by simp [Value.oneCell']) rfl (by decide) rfl rfl (by omega) (by omega) rfl ?_
  intro A4 c4
  repeat first
    | refine X_nil ?_
    | refine XT_only ?_
  refine XT_nodeE (fun _ h => h.tail.tail.hd) ?_
  refine TE_reads [12, 13] (by decide +kernel) (by decide +kernel) rfl ?_
  repeat first
    | refine Y_res (r_field' rfl) rfl ?_
    | refine Y_res (r_nilCheck rfl) rfl ?_
  refine XQ_nodeE ?_
  refine TE_tail 14 (by decide +kernel) rfl rfl ?_
  refine X_storeB (i := 2) rfl rfl rfl (by simp) ?_
  repeat first
    | refine X_nil ?_
    | refine XT_only ?_
  refine XT_nodeW (TN_end (by decide +kernel) ?_)
  repeat first
    | refine XC_region ?_
    | refine X_nil ?_
    | refine XC_seq ?_
    | refine XT_seq ?_
    | refine XC_ret ?_
    | refine Y_res (r_assign rfl) rfl ?_
  refine XT_ret1 (.inl rfl) Try.results28 rfl (fun w' h => ⟨{ a with Lo := A4, lc := c4 }, li ++ [(q, itI .u8 B cB b)], rfl, ?_, ?_⟩)
  · have e2 : ((li ++ [(q, itI .u8 B cB b)]).map rwC).flatten = (li.map rwC).flatten ++ [.int .i64 q, .slice B (0 + b.length) cB] := by simp [rwC, itI, It.val]
    have e3 : (p1.loose ++ [((q : Int).toNat, b)]).length = p1.loose.length + 1 := by simp
    have h2 := h.tail.of_perm (.cons _ (List.perm_middle (l₁ := [_, _, _])))
    have h3 := (h2.bagNV).bagNSub (jts := si ++ (li ++ [(q, itI .u8 B cB b)]).map (·.2)) (fun it hit => by
      simp only [List.map_append, List.mem_append, List.map_cons, List.map_nil, List.mem_singleton, List.mem_cons] at hit ⊢
      rcases hit with hit | hit | (hit | hit)
      · exact .inr (.inl hit)
      · exact .inr (.inr hit)
      · exact .inl (by rw [hit, Nat.zero_add]; rfl)
      · cases hit)
    have h4 := h3.of_perm (List.perm_middle (l₁ := [_, _, _])).symm
    rw [← f3, ← f4]
    show Hp w0 TS (RfC g { a with Lo := A4, lc := c4 } { p1 with now := p1.now.set q b, loose := p1.loose ++ [(q, b)] } si (li ++ [(q, itI .u8 B cB b)]) es) w'
    rw [RfC, e2]
    show Hp w0 TS (Ch.blk g [_, _, .slice _ (p1.loose ++ [((q : Int).toNat, b)]).length _, _, _] _ :: _ :: Ch.sv _ _ _ _ (p1.loose ++ [((q : Int).toNat, b)]).length _ :: _) w'
    rw [e3]
    exact h4
  · show RfOk { p1 with now := p.now.set q b, loose := p.loose ++ [(q, b)] } si _
    refine ⟨by show si.length = p1.n; rw [f1]; exact hf.sl, by show (li ++ [_]).length = (p.loose ++ [(q, b)]).length; rw [List.length_append, List.length_append, hf.ll]; rfl, by show ∀ (i : Nat) it s, si[i]? = some it → p1.safe[i]? = some s → _; rw [f2]; exact hf.sa, fun j y x hy hx => ?_⟩
    have hx : (p.loose ++ [(q, b)])[j]? = some x := hx
    rcases Nat.lt_or_ge j li.length with hj | hj
    · rw [List.getElem?_append_left hj] at hy
      rw [List.getElem?_append_left (by rw [← hf.ll]; exact hj)] at hx
      exact hf.la j y x hy hx
    · rw [List.getElem?_append_right hj] at hy
      rw [List.getElem?_append_right (by rw [← hf.ll]; exact hj), ← hf.ll] at hx
      have h0 : j - li.length = 0 := by
        have := (List.getElem?_eq_some_iff.1 hy).1
        simpa using this
      rw [h0] at hx hy
      obtain rfl := Option.some.inj hy
      obtain rfl := Option.some.inj hx
      exact ⟨rfl, B, cB, rfl⟩
end
end Go.Proofs.Ytipikjikjjmmiaa.NPl
