/- A disk of sectors: what its calls do, in plain words, and their walks. -/
import Derived.Test.YtgfpibojgkleiaaMT
import Derived.Test.YtgfpibojgkleiaaMXB
namespace Go.Proofs.Ytgfpibojgkleiaa.NPl
open Go Go.RowKit Go.Proofs.Ytgfpibojgkleiaa.MX
set_option linter.unusedVariables false
set_option linter.unusedSimpArgs false
set_option linter.unusedVariables false
instance : HasZ Try.prog 74 (.agg ((List.replicate 64 0).map (Value.int .u8)).toArray) := ⟨HasZI.eq⟩
/-- A disk: its sectors that are safe, and as they are now, the writes since, how many steps are left, whether it is down. -/
structure Pl where
  n : Nat
  safe : List (List Int)
  now : List (List Int)
  loose : List (Nat × List Int)
  left : Int
  down : Bool
/-- Where it lies. -/
structure Ad where
  As : Option Addr
  cs : Nat
  An : Option Addr
  cn : Nat
  Lo : Option Addr
  lc : Nat
def secC (s : List Int) : List Value := s.map (Value.int .u8)
def wrC (x : Nat × List Int) : List Value := Value.int .i64 x.1 :: secC x.2
def PlC (g : Nat) (a : Ad) (p : Pl) (es : List Ch) : List Ch :=
  Ch.blk g [.slice a.As p.n a.cs, .slice a.An p.n a.cn, .slice a.Lo p.loose.length a.lc, .int .i64 p.left, .bool p.down] 57 ::
   Ch.sv a.As a.cs 74 64 p.n (p.safe.map secC).flatten :: Ch.sv a.An a.cn 74 64 p.n (p.now.map secC).flatten :: Ch.sv a.Lo a.lc 76 65 p.loose.length (p.loose.map wrC).flatten :: es
structure PlOk (p : Pl) : Prop where
  lo : 8 ≤ p.n
  hi : p.n ≤ 16384
  sl : p.safe.length = p.n
  nl : p.now.length = p.n
  ss : ∀ s ∈ p.safe, s.length = 64
  ns : ∀ s ∈ p.now, s.length = 64
  ls : ∀ x ∈ p.loose, x.1 < p.n ∧ x.2.length = 64
  ll : p.loose.length ≤ 100000
  lf : -1 ≤ p.left ∧ p.left ≤ 9223372036854775807
def new0 (n : Nat) : Pl := ⟨n, List.replicate n (List.replicate 64 0), List.replicate n (List.replicate 64 0), [], -1, false⟩
/-- One step of those that are left; whether it is done. -/
def stepP (p : Pl) : Pl × Bool := if 0 < p.left then ({ p with left := p.left - 1 }, !p.down) else if p.left = 0 then ({ p with down := true }, false) else (p, !p.down)
def thereP (p : Pl) (i : Int) : Int := if p.down then 50 else if i < 0 ∨ (p.n : Int) ≤ i then 51 else 0
def armP (p : Pl) (m : Int) : Pl := { p with left := max m (-1) }
set_option maxHeartbeats 1000000 in
theorem new_out (m : Int) (w : World) (hm : ¬ (8 ≤ m ∧ m ≤ 16384)) : Calls Try.prog 10 #[.int .i64 m] w (Says w (.pointer none)) := by
  refine calls_of_X (vs := [_]) (M := Hp w (fun _ => False) []) Try.func10 rfl Try.ntmps10 rfl (Hp.nil _ _) ?_
  repeat first
    | refine XC_region ?_
    | refine X_nil ?_
    | refine XC_seq ?_
    | refine XT_seq ?_
    | refine Y_res (r_move rfl) rfl ?_
    | refine Y_res (r_assign rfl) rfl ?_
    | refine Y_res (r_lss rfl rfl) rfl ?_
  refine Y_split rfl rfl (fun h1 => ?_) (fun h1 => ?_)
  · repeat first
      | refine XC_region ?_
      | refine X_nil ?_
      | refine XC_condT rfl ?_
      | refine XC_seq ?_
      | refine XT_seq ?_
      | refine XT_then_ret ?_
      | refine XC_ret ?_
      | refine Y_res (r_assign rfl) rfl ?_
      | refine Y_off rfl rfl rfl ?_
      | refine Y_res (r_pickT rfl rfl) rfl ?_
    exact XT_says (.inl rfl) Try.results10 rfl rfl
  repeat first
    | refine X_nil ?_
    | refine XT_seq ?_
    | refine Y_res (r_move rfl) rfl ?_
    | refine Y_res (r_gtr rfl rfl) rfl ?_
    | refine Y_on rfl rfl ?_
    | refine Y_res (r_pickF rfl rfl) rfl ?_
  refine XC_condP rfl (fun h2 => ?_) (fun h2 => ?_)
  · repeat first
      | refine XC_region ?_
      | refine X_nil ?_
      | refine XC_seq ?_
      | refine XT_seq ?_
      | refine XT_then_ret ?_
      | refine XC_ret ?_
      | refine Y_res (r_assign rfl) rfl ?_
    exact XT_says (.inl rfl) Try.results10 rfl rfl
  · exact absurd ⟨by omega, by omega⟩ hm
theorem new0_C (n : Nat) : ((new0 n).safe.map secC).flatten = (List.replicate n (List.replicate 64 (Value.int .u8 0))).flatten := by
  show ((List.replicate n (List.replicate 64 0)).map secC).flatten = _
  rw [List.map_replicate, secC, List.map_replicate]
theorem new0_N (n : Nat) : ((new0 n).now.map secC).flatten = (List.replicate n (List.replicate 64 (Value.int .u8 0))).flatten := new0_C n
set_option maxHeartbeats 2000000 in
theorem new_in (n : Nat) (w : World) (h1 : 8 ≤ n) (h2 : n ≤ 16384) : Calls Try.prog 10 #[.int .i64 n] w fun e w' => ∃ g a, e = .returned (.pointer (some ⟨g, 0, none⟩)) ∧ Hp w (fun _ => False) (PlC g a (new0 n) []) w' := by
  refine calls_of_X (vs := [_]) (M := Hp w (fun _ => False) []) Try.func10 rfl Try.ntmps10 rfl (Hp.nil _ _) ?_
  repeat first
    | refine XC_region ?_
    | refine X_nil ?_
    | refine XC_seq ?_
    | refine XT_seq ?_
    | refine Y_res (r_move rfl) rfl ?_
    | refine Y_res (r_assign rfl) rfl ?_
    | refine Y_res (r_lss rfl rfl) rfl ?_
  refine Y_splitF rfl rfl (by omega) ?_
  repeat first
    | refine X_nil ?_
    | refine XT_seq ?_
    | refine Y_res (r_move rfl) rfl ?_
    | refine Y_res (r_gtr rfl rfl) rfl ?_
    | refine Y_on rfl rfl ?_
    | refine Y_res (r_pickF rfl rfl) rfl ?_
  refine XC_condP rfl (fun h3 => ?_) (fun h3 => ?_)
  · exact absurd h3 (by omega)
  repeat first
    | refine XC_seq ?_
    | refine XT_seq ?_
    | refine XC_skip ?_
  refine XC_held 6 (Hp w (fun _ => False) []) rfl drw_hp (fun _ h => h) ?_
  refine TE_reads [0, 2] (by decide +kernel) (by decide +kernel) rfl ?_
  repeat first
    | refine Y_res (r_move rfl) rfl ?_
  refine XQ_nodeE ?_
  refine TE_two 1 3 (by decide +kernel) rfl rfl rfl rfl ?_ ?_
  · refine X_makeF (u := .int .u8 0) rfl rfl rfl (by decide) (by omega) (by omega) rfl (fun g1 hg1 => ?_)
    repeat first
      | refine X_nil ?_
      | refine XT_only ?_
    refine XT_nodeE (fun _ h => h.none) ?_
    refine TE_one 3 (by decide +kernel) rfl rfl ?_
    refine X_makeF (u := .int .u8 0) rfl rfl rfl (by decide) (by omega) (by omega) rfl (fun g2 hg2 => ?_)
    repeat first
      | refine X_nil ?_
      | refine XT_only ?_
    refine XT_nodeE (fun _ h => h.none) ?_
    refine TE_one 4 (by decide +kernel) rfl rfl ?_
    refine Y_res (r_buildX (v := .agg [.slice (some ⟨g1, 0, none⟩) n n, .slice (some ⟨g2, 0, none⟩) n n, .slice none 0 0, .int .i64 (-1), .bool false].toArray) rfl (fun w => by kernel_rfl)) rfl ?_
    repeat first
      | refine X_nil ?_
      | refine XT_only ?_
    refine XT_nodeE (fun _ h => h.none) ?_
    refine TE_one 5 (by decide +kernel) rfl rfl ?_
    refine X_boxA (vs := [.slice (some ⟨g1, 0, none⟩) n n, .slice (some ⟨g2, 0, none⟩) n n, .slice none 0 0, .int .i64 (-1), .bool false]) rfl rfl (fun g hg => ?_)
    repeat first
      | refine X_nil ?_
      | refine XT_only ?_
    refine XT_nodeE (fun _ h => h.none) ?_
    refine TE_tail 6 (by decide +kernel) rfl rfl ?_
    repeat first
      | refine X_nil ?_
      | refine XT_only ?_
      | refine Y_res (r_assign rfl) rfl ?_
    refine XT_nodeW (TN_end (by decide +kernel) ?_)
    repeat first
      | refine XT_seq ?_
      | refine XC_ret ?_
    refine XT_ret1 (.inl rfl) Try.results10 rfl (fun w' h => ⟨g, ⟨some ⟨g1, 0, none⟩, n, some ⟨g2, 0, none⟩, n, none, 0⟩, rfl, ?_⟩)
    have h4 := h.nilV 76 65
    rw [PlC, new0_C, new0_N]
    exact Hp.of_perm (h4.of_perm (List.perm_append_comm (l₁ := [Ch.sv none 0 76 65 0 []]) (l₂ := [_, _, _]))) (List.Perm.cons _ (List.Perm.swap _ _ _))
  · refine X_makeF (u := .int .u8 0) rfl rfl rfl (by decide) (by omega) (by omega) rfl (fun g1 hg1 => ?_)
    repeat first
      | refine X_nil ?_
      | refine XT_only ?_
    refine XT_nodeE (fun _ h => h.none) ?_
    refine TE_one 1 (by decide +kernel) rfl rfl ?_
    refine X_makeF (u := .int .u8 0) rfl rfl rfl (by decide) (by omega) (by omega) rfl (fun g2 hg2 => ?_)
    repeat first
      | refine X_nil ?_
      | refine XT_only ?_
    refine XT_nodeE (fun _ h => h.none) ?_
    refine TE_one 4 (by decide +kernel) rfl rfl ?_
    refine Y_res (r_buildX (v := .agg [.slice (some ⟨g2, 0, none⟩) n n, .slice (some ⟨g1, 0, none⟩) n n, .slice none 0 0, .int .i64 (-1), .bool false].toArray) rfl (fun w => by kernel_rfl)) rfl ?_
    repeat first
      | refine X_nil ?_
      | refine XT_only ?_
    refine XT_nodeE (fun _ h => h.none) ?_
    refine TE_one 5 (by decide +kernel) rfl rfl ?_
    refine X_boxA (vs := [.slice (some ⟨g2, 0, none⟩) n n, .slice (some ⟨g1, 0, none⟩) n n, .slice none 0 0, .int .i64 (-1), .bool false]) rfl rfl (fun g hg => ?_)
    repeat first
      | refine X_nil ?_
      | refine XT_only ?_
    refine XT_nodeE (fun _ h => h.none) ?_
    refine TE_tail 6 (by decide +kernel) rfl rfl ?_
    repeat first
      | refine X_nil ?_
      | refine XT_only ?_
      | refine Y_res (r_assign rfl) rfl ?_
    refine XT_nodeW (TN_end (by decide +kernel) ?_)
    repeat first
      | refine XT_seq ?_
      | refine XC_ret ?_
    refine XT_ret1 (.inl rfl) Try.results10 rfl (fun w' h => ⟨g, ⟨some ⟨g2, 0, none⟩, n, some ⟨g1, 0, none⟩, n, none, 0⟩, rfl, ?_⟩)
    have h4 := h.nilV 76 65
    rw [PlC, new0_C, new0_N]
    exact h4.of_perm (List.perm_append_comm (l₁ := [Ch.sv none 0 76 65 0 []]) (l₂ := [_, _, _]))
section
variable {g : Nat} {a : Ad} {p : Pl} {w w0 : World} {TS : Nat → Prop} {es : List Ch}
set_option maxHeartbeats 2000000 in
theorem step_any (hT : Hp w0 TS (PlC g a p es) w) (hp : PlOk p) : Calls Try.prog 41 #[.pointer (some ⟨g, 0, none⟩)] w fun e w' => e = .returned (.bool (stepP p).2) ∧ Hp w0 TS (PlC g a (stepP p).1 es) w' := by
  have hl := hp.lf
  refine calls_of_X (vs := [_]) (M := Hp w0 TS (PlC g a p es)) Try.func41 rfl Try.ntmps41 rfl hT ?_
  unfold PlC
  repeat first
    | refine XC_region ?_
    | refine X_nil ?_
    | refine XC_seq ?_
    | refine XT_seq ?_
    | refine XC_block ?_
    | refine Y_res (r_move rfl) rfl ?_
    | refine Y_res (r_assign rfl) rfl ?_
    | refine Y_res (r_gtr rfl rfl) rfl ?_
    | refine Y_res (r_field' rfl) rfl ?_
    | refine Y_res (r_nilCheck rfl) rfl ?_
    | refine Y_res (r_loadB rfl rfl) rfl ?_
  refine XC_condP rfl (fun h1 => ?_) (fun h1 => ?_)
  · have e1 : stepP p = ({ p with left := p.left - 1 }, !p.down) := if_pos h1
    rw [e1]
    repeat first
      | refine XC_region ?_
      | refine X_nil ?_
      | refine XC_seq ?_
      | refine XT_seq ?_
      | refine XT_block_normal ?_
      | refine XC_ret ?_
      | refine Y_res (r_move rfl) rfl ?_
      | refine Y_res (r_assign rfl) rfl ?_
      | refine Y_res (r_sub64 rfl rfl (by omega)) rfl ?_
      | refine Y_res (r_notB rfl) rfl ?_
      | refine Y_res (r_field' rfl) rfl ?_
      | refine Y_res (r_nilCheck rfl) rfl ?_
      | refine Y_res (r_loadB rfl rfl) rfl ?_
      | refine X_storeB rfl rfl rfl (by simp) ?_
    exact XT_ret1 (.inl rfl) Try.results41 rfl (fun w' h => ⟨rfl, h⟩)
  repeat first
    | refine XC_region ?_
    | refine X_nil ?_
    | refine XC_seq ?_
    | refine XT_seq ?_
    | refine Y_res (r_move rfl) rfl ?_
    | refine Y_res (r_assign rfl) rfl ?_
    | refine Y_res (r_eql rfl rfl) rfl ?_
    | refine Y_res (r_field' rfl) rfl ?_
    | refine Y_res (r_nilCheck rfl) rfl ?_
    | refine Y_res (r_loadB rfl rfl) rfl ?_
  refine XC_condP rfl (fun h2 => ?_) (fun h2 => ?_)
  · have e1 : stepP p = ({ p with down := true }, false) := by rw [stepP, if_neg h1, if_pos h2]
    rw [e1]
    repeat first
      | refine XC_region ?_
      | refine X_nil ?_
      | refine XC_seq ?_
      | refine XT_seq ?_
      | refine XT_block_normal ?_
      | refine XC_ret ?_
      | refine Y_res (r_move rfl) rfl ?_
      | refine Y_res (r_assign rfl) rfl ?_
      | refine Y_res (r_notB rfl) rfl ?_
      | refine Y_res (r_field' rfl) rfl ?_
      | refine Y_res (r_nilCheck rfl) rfl ?_
      | refine Y_res (r_loadB rfl rfl) rfl ?_
      | refine X_storeB rfl rfl rfl (by simp) ?_
    exact XT_ret1 (.inl rfl) Try.results41 rfl (fun w' h => ⟨rfl, h⟩)
  · have e1 : stepP p = (p, !p.down) := by rw [stepP, if_neg h1, if_neg h2]
    rw [e1]
    repeat first
      | refine XC_region ?_
      | refine X_nil ?_
      | refine XC_seq ?_
      | refine XT_seq ?_
      | refine XT_block_normal ?_
      | refine XC_skip ?_
      | refine XC_ret ?_
      | refine Y_res (r_move rfl) rfl ?_
      | refine Y_res (r_assign rfl) rfl ?_
      | refine Y_res (r_notB rfl) rfl ?_
      | refine Y_res (r_field' rfl) rfl ?_
      | refine Y_res (r_nilCheck rfl) rfl ?_
      | refine Y_res (r_loadB rfl rfl) rfl ?_
    exact XT_ret1 (.inl rfl) Try.results41 rfl (fun w' h => ⟨rfl, h⟩)
set_option maxHeartbeats 2000000 in
theorem there_any (i : Int) (hT : Hp w0 TS (PlC g a p es) w) : Calls Try.prog 40 #[.pointer (some ⟨g, 0, none⟩), .int .i64 i] w fun e w' => e = .returned (.int .i64 (thereP p i)) ∧ Hp w0 TS (PlC g a p es) w' := by
  refine calls_of_X (vs := [_, _]) (M := Hp w0 TS (PlC g a p es)) Try.func40 rfl Try.ntmps40 rfl hT ?_
  unfold PlC
  repeat first
    | refine XC_region ?_
    | refine X_nil ?_
    | refine XC_seq ?_
    | refine XT_seq ?_
    | refine XC_block ?_
    | refine Y_res (r_move rfl) rfl ?_
    | refine Y_res (r_assign rfl) rfl ?_
    | refine Y_res (r_field' rfl) rfl ?_
    | refine Y_res (r_nilCheck rfl) rfl ?_
    | refine Y_res (r_loadB rfl rfl) rfl ?_
  refine XC_cond rfl (fun h1 => ?_) (fun h1 => ?_)
  · repeat first
      | refine XC_region ?_
      | refine X_nil ?_
      | refine XC_seq ?_
      | refine XT_seq ?_
      | refine XT_block_ret ?_
      | refine XT_then_ret ?_
      | refine XC_ret ?_
      | refine Y_res (r_assign rfl) rfl ?_
    exact XT_ret1 (.inl rfl) Try.results40 rfl (fun w' h => ⟨by rw [thereP, if_pos h1], h⟩)
  repeat first
    | refine XC_region ?_
    | refine XC_seq ?_
    | refine Y_res (r_move rfl) rfl ?_
    | refine Y_res (r_lss rfl rfl) rfl ?_
  refine Y_split rfl rfl (fun h2 => ?_) (fun h2 => ?_)
  · repeat first
      | refine XC_region ?_
      | refine X_nil ?_
      | refine XC_condT rfl ?_
      | refine XC_seq ?_
      | refine XT_seq ?_
      | refine XT_block_ret ?_
      | refine XT_then_ret ?_
      | refine XC_ret ?_
      | refine Y_res (r_assign rfl) rfl ?_
      | refine Y_off rfl rfl rfl ?_
      | refine Y_res (r_pickT rfl rfl) rfl ?_
    exact XT_ret1 (.inl rfl) Try.results40 rfl (fun w' h => ⟨by rw [thereP, if_neg (by simp [h1]), if_pos (.inl h2)], h⟩)
  repeat first
    | refine X_nil ?_
    | refine XT_seq ?_
    | refine Y_res (r_move rfl) rfl ?_
    | refine Y_res (r_assign rfl) rfl ?_
    | refine Y_res (r_geq rfl rfl) rfl ?_
    | refine Y_on rfl rfl ?_
    | refine Y_res (r_len rfl) rfl ?_
    | refine Y_res (r_field' rfl) rfl ?_
    | refine Y_res (r_nilCheck rfl) rfl ?_
    | refine Y_res (r_loadB rfl rfl) rfl ?_
    | refine Y_res (r_pickF rfl rfl) rfl ?_
  refine XC_condP rfl (fun h3 => ?_) (fun h3 => ?_)
  · repeat first
      | refine XC_region ?_
      | refine X_nil ?_
      | refine XC_seq ?_
      | refine XT_seq ?_
      | refine XT_block_ret ?_
      | refine XT_then_ret ?_
      | refine XC_ret ?_
      | refine Y_res (r_assign rfl) rfl ?_
    exact XT_ret1 (.inl rfl) Try.results40 rfl (fun w' h => ⟨by rw [thereP, if_neg (by simp [h1]), if_pos (.inr h3)], h⟩)
  · repeat first
      | refine XC_region ?_
      | refine X_nil ?_
      | refine XC_seq ?_
      | refine XT_seq ?_
      | refine XT_block_normal ?_
      | refine XC_skip ?_
      | refine XC_ret ?_
      | refine Y_res (r_assign rfl) rfl ?_
    exact XT_ret1 (.inl rfl) Try.results40 rfl (fun w' h => ⟨by rw [thereP, if_neg (by simp [h1]), if_neg (by omega)], h⟩)
set_option maxHeartbeats 2000000 in
theorem loose_any (hT : Hp w0 TS (PlC g a p es) w) : Calls Try.prog 18 #[.pointer (some ⟨g, 0, none⟩)] w fun e w' => e = .returned (.int .i64 p.loose.length) ∧ Hp w0 TS (PlC g a p es) w' := by
  refine calls_of_X (vs := [_]) (M := Hp w0 TS (PlC g a p es)) Try.func18 rfl Try.ntmps18 rfl hT ?_
  unfold PlC
  repeat first
    | refine XC_region ?_
    | refine X_nil ?_
    | refine XC_seq ?_
    | refine XT_seq ?_
    | refine XC_ret ?_
    | refine Y_res (r_move rfl) rfl ?_
    | refine Y_res (r_assign rfl) rfl ?_
    | refine Y_res (r_len rfl) rfl ?_
    | refine Y_res (r_field' rfl) rfl ?_
    | refine Y_res (r_nilCheck rfl) rfl ?_
    | refine Y_res (r_loadB rfl rfl) rfl ?_
  exact XT_ret1 (.inl rfl) Try.results18 rfl (fun w' h => ⟨rfl, h⟩)
set_option maxHeartbeats 2000000 in
theorem sectors_any (hT : Hp w0 TS (PlC g a p es) w) : Calls Try.prog 26 #[.pointer (some ⟨g, 0, none⟩)] w fun e w' => e = .returned (.int .i64 p.n) ∧ Hp w0 TS (PlC g a p es) w' := by
  refine calls_of_X (vs := [_]) (M := Hp w0 TS (PlC g a p es)) Try.func26 rfl Try.ntmps26 rfl hT ?_
  unfold PlC
  repeat first
    | refine XC_region ?_
    | refine X_nil ?_
    | refine XC_seq ?_
    | refine XT_seq ?_
    | refine XC_ret ?_
    | refine Y_res (r_move rfl) rfl ?_
    | refine Y_res (r_assign rfl) rfl ?_
    | refine Y_res (r_len rfl) rfl ?_
    | refine Y_res (r_field' rfl) rfl ?_
    | refine Y_res (r_nilCheck rfl) rfl ?_
    | refine Y_res (r_loadB rfl rfl) rfl ?_
  exact XT_ret1 (.inl rfl) Try.results26 rfl (fun w' h => ⟨rfl, h⟩)
set_option maxHeartbeats 2000000 in
theorem arm_any (m : Int) (hT : Hp w0 TS (PlC g a p es) w) : Calls Try.prog 22 #[.pointer (some ⟨g, 0, none⟩), .int .i64 m] w fun e w' => e = .returned (.tuple #[]) ∧ Hp w0 TS (PlC g a (armP p m) es) w' := by
  refine calls_of_X (vs := [_, _]) (M := Hp w0 TS (PlC g a p es)) Try.func22 rfl Try.ntmps22 rfl hT ?_
  unfold PlC
  repeat first
    | refine XC_region ?_
    | refine X_nil ?_
    | refine Y_res (r_move rfl) rfl ?_
    | refine Y_res (r_field' rfl) rfl ?_
    | refine Y_res (r_nilCheck rfl) rfl ?_
    | refine X_storeB rfl rfl rfl (by simp) ?_
    | refine Y_res (r_max2 rfl rfl) rfl ?_
  have e1 : (if -1 > m then -1 else m) = max m (-1) := by omega
  rw [e1]
  exact XT_ret0 (.inr rfl) Try.results22 (fun w' h => ⟨rfl, h⟩)
end
end Go.Proofs.Ytgfpibojgkleiaa.NPl
