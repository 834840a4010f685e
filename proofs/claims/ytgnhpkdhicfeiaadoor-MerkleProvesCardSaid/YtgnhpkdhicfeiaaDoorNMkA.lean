/- Verifying paths and bridges: the helpers, walked. -/
import Derived.Test.YtgnhpkdhicfeiaaDoorNMk9
import Derived.Test.YtgnhpkdhicfeiaaDoorMXE
import Derived.Test.YtgnhpkdhicfeiaaDoorPMerkle2
namespace Go.Proofs.YtgnhpkdhicfeiaaDoor.NMk
open Go Go.RowKit Go.Proofs.YtgnhpkdhicfeiaaDoor.MX Go.Proofs.YtgnhpkdhicfeiaaDoor.PSha Go.Proofs.YtgnhpkdhicfeiaaDoor.NSha Go.Proofs.YtgnhpkdhicfeiaaDoor.PMerkle
set_option linter.unusedVariables false
set_option linter.unusedSimpArgs false
set_option linter.unusedVariables false
set_option maxHeartbeats 1000000 in
theorem lam_any (n c : Nat) (A : Option Addr) (w : World) : Calls Tryd.prog 49 #[.slice A n c] w (Says w (.bool (decide ((n : Int) ≠ 32)))) := by
  refine calls_of_X (vs := [_]) (M := Hp w (fun _ => False) []) Tryd.func49 rfl Tryd.ntmps49 rfl (Hp.nil _ _) ?_
  repeat first
    | refine XC_region ?_
    | refine X_nil ?_
    | refine XC_seq ?_
    | refine XT_seq ?_
    | refine XC_ret ?_
    | refine Y_res (r_move rfl) rfl ?_
    | refine Y_res (r_assign rfl) rfl ?_
    | refine Y_res (r_neq rfl rfl) rfl ?_
    | refine Y_res (r_len rfl) rfl ?_
  exact XT_says (.inl rfl) Tryd.results49 rfl rfl
set_option maxHeartbeats 2000000 in
theorem index_any (L : List (List Int)) (A : Option Addr) (c : Nat) (w : World) (h : LLs .u8 w A c L) (h32 : ∀ x ∈ L, x.length = 32) : Calls Tryd.prog 57 #[.slice A L.length c, .func (.func 49) #[] #[]] w (Says w (.int .i64 (-1))) := by
  have hle := h.le
  have hcap := h.cap
  refine calls_of_X (vs := [_, _]) (M := Hp w (fun _ => False) []) Tryd.func57 rfl Tryd.ntmps57 rfl (Hp.nil _ _) ?_
  repeat first
    | refine XC_region ?_
    | refine X_nil ?_
    | refine XC_seq ?_
    | refine XT_seq ?_
    | refine XC_block ?_
    | refine Y_res (r_move rfl) rfl ?_
    | refine Y_res (r_assign rfl) rfl ?_
    | refine Y_res (r_len rfl) rfl ?_
  refine XC_loop (ι := Nat) (fun i => i ≤ L.length) (fun i => [(0, .slice A L.length c), (1, .func (.func 49) #[] #[]), (7, .int .i64 L.length), (8, .int .i64 i)]) (fun i => Hp w (fun _ => False) []) (fun i => L.length - i) 0 (Nat.zero_le _) ⟨rfl, rfl, rfl, rfl, trivial⟩ (fun _ h => h) ?_
  intro i hi
  repeat first
    | refine XC_region ?_
    | refine X_nil ?_
    | refine XC_seq ?_
    | refine XT_seq ?_
    | refine Y_res (r_lss rfl rfl) rfl ?_
  refine XC_condP rfl (fun hlt => ?_) (fun hge => ?_)
  · have hi2 : i < L.length := by omega
    have hA := h.some (by omega)
    obtain ⟨l, hl⟩ : ∃ l, L[i]? = some l := ⟨L[i], List.getElem?_eq_getElem hi2⟩
    obtain ⟨B, d, hcell, hrd⟩ := h.at_ i l hl
    have hl32 := h32 l (List.mem_of_getElem? hl)
    repeat first
      | refine XC_region ?_
      | refine X_nil ?_
      | refine XC_seq ?_
      | refine XT_seq ?_
      | refine XC_block ?_
      | refine XC_skip ?_
      | refine Y_res (r_move rfl) rfl ?_
      | refine Y_res (r_assign rfl) rfl ?_
      | refine Y_res (r_indexO rfl rfl hi2 hA) rfl ?_
      | refine Y_res (r_loadO rfl hcell (fun h => h)) rfl ?_
      | refine Y_callV (g := 49) (vs := [.slice B l.length d]) (cs := []) (v := .bool (decide ((l.length : Int) ≠ 32))) rfl rfl rfl (fun w1 hM => (lam_any l.length d B w1).mono fun e w2 hh => ⟨hh.1, hM.keep hh.2⟩) ?_
    refine XC_condP rfl (fun hx => absurd (by rw [hl32]; rfl) hx) (fun _ => ?_)
    repeat first
      | refine XC_region ?_
      | refine X_nil ?_
      | refine XT_seq ?_
      | refine XT_block_normal ?_
      | refine XC_skip ?_
      | refine Y_res (r_move rfl) rfl ?_
      | refine Y_res (r_add64 rfl rfl (by omega)) rfl ?_
    exact XT_round (i + 1) hi2 (by omega) ⟨rfl, rfl, rfl, rfl, trivial⟩ (fun _ h => h)
  · repeat first
      | refine XC_region ?_
      | refine X_nil ?_
      | refine XC_seq ?_
      | refine XT_seq ?_
      | refine XT_block_same rfl ?_
      | refine XT_then_exit ?_
      | refine XC_exit ?_
      | refine XC_ret ?_
      | refine Y_res (r_assign rfl) rfl ?_
    exact XT_says (.inl rfl) Tryd.results57 rfl rfl
set_option maxHeartbeats 1000000 in
theorem contains_any (L : List (List Int)) (A : Option Addr) (c : Nat) (w : World) (h : LLs .u8 w A c L) (h32 : ∀ x ∈ L, x.length = 32) : Calls Tryd.prog 48 #[.slice A L.length c, .func (.func 49) #[] #[]] w (Says w (.bool false)) := by
  refine calls_of_X (vs := [_, _]) (M := Hp w (fun _ => False) []) Tryd.func48 rfl Tryd.ntmps48 rfl (Hp.nil _ _) ?_
  repeat first
    | refine XC_region ?_
    | refine X_nil ?_
    | refine XC_seq ?_
    | refine XT_seq ?_
    | refine XC_ret ?_
    | refine Y_res (r_move rfl) rfl ?_
    | refine Y_res (r_assign rfl) rfl ?_
    | refine Y_res (r_geq rfl rfl) rfl ?_
    | refine Y_says (g := 57) rfl rfl (fun w1 hM => index_any L A c w1 (h.keep hM.chg (fun _ h => h)) h32) ?_
  exact XT_says (.inl rfl) Tryd.results48 rfl rfl
set_option maxHeartbeats 1000000 in
/-- All hashes have their length. -/
theorem sized_any (L : List (List Int)) (A : Option Addr) (c : Nat) (w : World) (h : LLs .u8 w A c L) (h32 : ∀ x ∈ L, x.length = 32) : Calls Tryd.prog 36 #[.slice A L.length c] w (Says w (.bool true)) := by
  refine calls_of_X (vs := [_]) (M := Hp w (fun _ => False) []) Tryd.func36 rfl Tryd.ntmps36 rfl (Hp.nil _ _) ?_
  repeat first
    | refine XC_region ?_
    | refine X_nil ?_
    | refine XC_seq ?_
    | refine XT_seq ?_
    | refine XC_ret ?_
    | refine Y_res (r_move rfl) rfl ?_
    | refine Y_res (r_assign rfl) rfl ?_
    | refine Y_res (r_notB rfl) rfl ?_
    | refine Y_says (g := 48) rfl rfl (fun w1 hM => contains_any L A c w1 (h.keep hM.chg (fun _ h => h)) h32) ?_
  exact XT_says (.inl rfl) Tryd.results36 rfl rfl
set_option maxHeartbeats 1000000 in
theorem equal_any (a b : List Int) (A B : Option Addr) (ca cb : Nat) (w : World) (ha : Rds w A ca .u8 a) (hb : Rds w B cb .u8 b) (he : a = b) : Calls Tryd.prog 37 #[.slice A a.length ca, .slice B b.length cb] w (Says w (.bool true)) := by
  refine calls_of_X (vs := [_, _]) (M := Hp w (fun _ => False) []) Tryd.func37 rfl Tryd.ntmps37 rfl (Hp.nil _ _) ?_
  repeat first
    | refine XC_region ?_
    | refine X_nil ?_
    | refine XC_seq ?_
    | refine XT_seq ?_
    | refine XC_ret ?_
    | refine Y_res (r_move rfl) rfl ?_
    | refine Y_res (r_assign rfl) rfl ?_
    | refine Y_res (r_convBS rfl (fun w1 hM => ha.old hM old_false)) rfl ?_
    | refine Y_res (r_convBS rfl (fun w1 hM => hb.old hM old_false)) rfl ?_
    | refine Y_res (r_eqlT rfl rfl) rfl ?_
  exact XT_says (.inl rfl) Tryd.results37 rfl (by rw [he, decide_eq_true rfl])
set_option maxHeartbeats 1000000 in
theorem growv_any (m : Nat) (w : World) (hm : m ≤ 10000000) (h0 : 0 < m) : Calls Tryd.prog 50 #[.slice none 0 0, .int .i64 m] w fun e w' => ∃ A c, e = .returned (.slice A 0 c) ∧ Hp w (fun _ => False) [Ch.sv A c 34 1 0 []] w' := by
  refine calls_of_X (vs := [_, _]) (M := Hp w (fun _ => False) []) Tryd.func50 rfl Tryd.ntmps50 rfl (Hp.nil _ _) ?_
  repeat first
    | refine XC_region ?_
    | refine X_nil ?_
    | refine XC_condF rfl ?_
    | refine XC_seq ?_
    | refine XT_seq ?_
    | refine XC_skip ?_
    | refine Y_res (r_move rfl) rfl ?_
    | refine Y_res (r_assign rfl) rfl ?_
    | refine Y_res (r_sub64 rfl rfl (by omega)) rfl ?_
    | refine Y_res (r_lss rfl rfl) rfl ?_
    | refine Y_res (r_gtr rfl rfl) rfl ?_
    | refine Y_res (r_len rfl) rfl ?_
    | refine Y_res (r_cap rfl) rfl ?_
  refine XC_condP rfl (fun h2 => ?_) (fun h2 => ?_)
  · repeat first
      | refine XC_region ?_
      | refine X_nil ?_
      | refine XC_seq ?_
      | refine XT_seq ?_
      | refine XC_ret ?_
      | refine Y_res (r_move rfl) rfl ?_
      | refine Y_res (r_assign rfl) rfl ?_
      | refine Y_res (r_len rfl) rfl ?_
      | refine Y_res (r_cap rfl) rfl ?_
      | refine Y_res (r_cut0 rfl rfl (by omega)) rfl ?_
      | (refine X_appendZV (m := m) rfl rfl rfl (by omega) (by omega) (by omega) (by omega) rfl ?_; intro _ _)
    rename_i go cap'
    refine XT_mem (M' := Hp w (fun _ => False) [Ch.sv (some ⟨go, 0, none⟩) cap' 34 1 0 []]) (fun w' h => ⟨h.chg, fun x hx => ?_, fun x hx => ?_, List.pairwise_singleton _ _⟩) ?_
    · rw [List.mem_singleton.1 hx]
      exact sv_less 0 h.head (Nat.zero_le _)
    · rw [List.mem_singleton.1 hx]
      exact fun k hk => h.own _ (List.mem_cons_self ..) k hk
    exact XT_ret1 (.inl rfl) Tryd.results50 rfl (fun w' h => ⟨_, _, rfl, h⟩)
  · exact absurd (by omega) h2
end Go.Proofs.YtgnhpkdhicfeiaaDoor.NMk
