/- SHA-256's inner functions: what each does, in numbers. -/
import Derived.Test.YtgnhpkdhicfeiaaDoorProg
import Derived.Test.YtgnhpkdhicfeiaaDoorMXT
import Derived.Test.YtgnhpkdhicfeiaaDoorMXS
import Derived.Test.YtgnhpkdhicfeiaaDoorMXG
import Derived.Test.YtgnhpkdhicfeiaaDoorMT
import Derived.Test.YtgnhpkdhicfeiaaDoorPSha
namespace Go.Proofs.YtgnhpkdhicfeiaaDoor.NSha
open Go Go.RowKit Go.Proofs.YtgnhpkdhicfeiaaDoor.MX Go.Proofs.YtgnhpkdhicfeiaaDoor.PSha
set_option linter.unusedVariables false
set_option linter.unusedSimpArgs false
set_option linter.unusedVariables false

set_option maxHeartbeats 4000000 in
theorem word (A : Option Addr) (c n : Nat) (l : List Int) (w : World) (hr : Rds w A c .u8 l) (hl : 4 ≤ n) (hn : n ≤ l.length) : Calls Tryd.prog 60 #[.slice A n c] w fun e w' => e = .returned (.int .u32 (wd l 0)) ∧ Chg (fun _ => False) w w' := by
  have hc := hr.le
  refine calls_of_X (vs := [_]) (M := Hp w (fun _ => False) []) Tryd.func60 rfl Tryd.ntmps60 rfl (Hp.nil _ _) ?_
  repeat first
    | refine XC_region ?_
    | refine XC_quietF rfl (by kernel_rfl) (by kernel_rfl) drw_hp ?_
    | refine X_nil ?_
    | refine XQ_nil ?_
    | refine XC_seq ?_
    | refine XT_seq ?_
    | refine XC_ret ?_
    | refine Y_res (r_move rfl) rfl ?_
    | refine Y_res (r_assign rfl) rfl ?_
    | refine Y_res (r_or rfl rfl) rfl ?_
    | refine Y_res (r_shl32 rfl rfl rfl) rfl ?_
    | refine Y_res (r_conv32 rfl) rfl ?_
    | refine Y_res (r_indexR rfl rfl (by assumption) (by omega) (by omega)) rfl ?_
    | refine Y_res (r_loadR rfl (by assumption) (by first | exact old_false | assumption) (by omega)) rfl ?_
  refine XT_ret1 (.inl rfl) Tryd.results60 rfl ?_
  intro w' h
  exact ⟨rfl, h.chg⟩

def sh (k : Int) : Nat := (k % 32).toNat
set_option maxHeartbeats 8000000 in
theorem rot (k : Int) (hk : k ∈ ([-17, -19, -7, -18, -6, -11, -25, -2, -13, -22] : List Int)) (x : Int) (w : World) :
    Calls Tryd.prog 61 #[.int .u32 x, .int .i64 k] w fun e w' => e = .returned (.int .u32 (rotl (sh k) x)) ∧ Chg (fun _ => False) w w' := by
  obtain ⟨s, hs⟩ : ∃ s, s = sh k := ⟨_, rfl⟩
  rw [← hs]
  obtain ⟨hb, hs0, hs⟩ : bits .and .u64 (k % 18446744073709551616) 31 = (s : Int) ∧ 1 ≤ s ∧ s < 32 := by
    subst hs
    revert hk
    exact (by decide +kernel : ∀ k ∈ ([-17, -19, -7, -18, -6, -11, -25, -2, -13, -22] : List Int), bits .and .u64 (k % 18446744073709551616) 31 = ((sh k : Nat) : Int) ∧ 1 ≤ sh k ∧ sh k < 32) k
  clear hk
  refine calls_of_X (vs := [_, _]) (M := Hp w (fun _ => False) []) Tryd.func61 rfl Tryd.ntmps61 rfl (Hp.nil _ _) ?_
  repeat first
    | refine XC_region ?_
    | refine X_nil ?_
    | refine XC_seq ?_
    | refine XT_seq ?_
    | refine Y_res (r_move rfl) rfl ?_
    | refine Y_res (r_assign rfl) rfl ?_
    | refine Y_res (r_and rfl rfl) rfl ?_
    | refine Y_res (r_convu rfl) rfl ?_
  refine Y_res (r_shlV (s := s) rfl rfl hb (by simp only [IntKind.bits]; omega)) rfl ?_
  repeat first
    | refine Y_res (r_move rfl) rfl ?_
    | refine Y_res (r_subu rfl rfl) rfl ?_
  refine Y_res (r_shrV (s := 32 - s) rfl rfl (by rw [hb]; omega) (by simp only [IntKind.bits]; omega)) rfl ?_
  repeat first
    | refine X_nil ?_
    | refine XT_seq ?_
    | refine XC_ret ?_
    | refine Y_res (r_assign rfl) rfl ?_
    | refine Y_res (r_or rfl rfl) rfl ?_
  refine XT_ret1 (.inl rfl) Tryd.results61 rfl ?_
  intro w' h
  exact ⟨by rw [wrap_u32]; rfl, h.chg⟩

/-- The table of the round numbers, in memory. -/
def KAt (K : List Int) (w : World) : Prop := ∀ j, j < 64 → w.cell? ⟨2, j, none⟩ = some (.int .u32 (K.getD j 0))
theorem KAt.keep {K : List Int} {S : Nat → Prop} {w w' : World} (h : KAt K w) (hc : Chg S w w') (hs : ¬ S 2) : KAt K w' := fun j hj => cell_chg (h j hj) hc hs
/-- The state's block. -/
def StAt (g : Nat) (s : S8) (rest : List Value) (T : TypeId) : Ch := Ch.hd g .u32 s.words rest T

set_option maxHeartbeats 1000000 in
set_option maxRecDepth 100000 in
theorem block (g c n : Nat) (l K : List Int) (s : S8) (rest : List Value) (T : TypeId) (A : Option Addr) (w : World) (hb : (StAt g s rest T).P w) (hr : Rds w A c .u8 l) (hn : n = l.length) (hl : l.length = 64) (hK : KAt K w) (hg : g ≠ 2) :
    Calls Tryd.prog 56 #[.pointer (some ⟨g, 0, none⟩), .slice A n c] w fun e w' => e = .returned (.tuple #[]) ∧ (StAt g (s.add (rnds K (sch l 64) s 64)) rest T).P w' ∧ Chg (fun k => k = g) w w' := by
  have hc := hr.le
  subst hn
  refine calls_of_X (vs := [_, _]) (M := Hp w (fun k => k = g) [Ch.hd g .u32 s.words rest T]) Tryd.func56 rfl Tryd.ntmps56 rfl ?_ ?_
  · exact ⟨Chg.refl _ _, by intro c hc; rw [List.mem_singleton.1 hc]; exact hb, by intro c hc k hk; rw [List.mem_singleton.1 hc] at hk; exact .inl hk, .cons (by simp) .nil⟩
  repeat first
    | refine XC_region ?_
    | refine X_nil ?_
    | refine XC_seq ?_
    | refine XT_seq ?_
    | refine XC_block ?_
    | refine Y_res (r_move rfl) rfl ?_
    | (refine X_allocI rfl ?_; intro _ _)
  rename_i gw hgw
  have hsame : ∀ w1 cs, Hp w (fun k => k = g) cs w1 → Ch.hd g .u32 s.words rest T ∈ cs → Rds w1 A c .u8 l := fun w1 cs h hm => hr.same h.chg ((h.sat _ hm).trans hb.symm)
  refine XC_loop (ι := Nat) (fun t => t ≤ 16) (fun t => [(0, .pointer (some ⟨g, 0, none⟩)), (1, .slice A l.length c), (4, .pointer (some ⟨gw, 0, none⟩)), (22, .int .i64 t)])
    (fun t => Hp w (fun k => k = g) [Ch.ints gw .u32 (row l t) 62, Ch.hd g .u32 s.words rest T]) (fun t => 16 - t) 0 (by omega) ⟨rfl, rfl, rfl, rfl, trivial⟩ (fun _ h => h) ?_
  intro t ht
  have hrl := row_len l t (by omega)
  repeat first
    | refine XC_region ?_
    | refine X_nil ?_
    | refine XC_seq ?_
    | refine XT_seq ?_
    | refine Y_res (r_lss rfl rfl) rfl ?_
  refine XC_condP rfl (fun hlt => ?_) (fun hge => ?_)
  · repeat first
      | refine XC_region ?_
      | refine X_nil ?_
      | refine XC_seq ?_
      | refine XT_seq ?_
      | refine XC_block ?_
      | refine XC_skip ?_
      | refine Y_res (r_move rfl) rfl ?_
      | refine Y_res (r_assign rfl) rfl ?_
      | refine Y_res (r_mul64 rfl rfl (by omega)) rfl ?_
      | refine Y_res (r_cutL rfl rfl (by omega)) rfl ?_
    refine X_call rfl rfl (fun w1 hM => (word _ _ _ (l.drop (4 * t)) w1 ((hsame _ _ hM (by simp)).drop (4 * t) (by omega)) (by omega) (by simp)).mono fun e w2 h => ⟨_, h.1, _, hM.keep h.2, ?_⟩)
    repeat first
      | refine XC_region ?_
      | refine X_nil ?_
      | refine XT_seq ?_
      | refine XT_block_normal ?_
      | refine Y_res (r_move rfl) rfl ?_
      | refine Y_res (r_add64 rfl rfl (by omega)) rfl ?_
      | refine Y_res (r_indexA0 rfl rfl (by omega)) rfl ?_
      | refine X_storeI rfl rfl (by first | omega | (simp only [List.length_set, List.length_replicate]; omega)) ?_
    refine XT_round (t + 1) (by omega) (by omega) ⟨rfl, rfl, rfl, rfl, trivial⟩ (fun w3 h3 => ?_)
    rw [← row_next l t (by omega), ← wd_drop]
    exact h3
  · obtain rfl : t = 16 := by omega
    repeat first
      | refine XC_region ?_
      | refine X_nil ?_
      | refine XC_seq ?_
      | refine XT_seq ?_
      | refine XC_block ?_
      | refine XT_block_same rfl ?_
      | refine XT_then_exit ?_
      | refine XC_exit ?_
      | refine Y_res (r_assign rfl) rfl ?_
    refine XC_loop (ι := Nat) (fun t => 16 ≤ t ∧ t ≤ 64) (fun t => [(0, .pointer (some ⟨g, 0, none⟩)), (4, .pointer (some ⟨gw, 0, none⟩)), (6, .int .i64 t)])
      (fun t => Hp w (fun k => k = g) [Ch.ints gw .u32 (row l t) 62, Ch.hd g .u32 s.words rest T]) (fun t => 64 - t) 16 (by omega) ⟨rfl, rfl, rfl, trivial⟩ (fun _ h => h) ?_
    intro t ht
    have hrl := row_len l t (by omega)
    repeat first
      | refine XC_region ?_
      | refine X_nil ?_
      | refine XC_seq ?_
      | refine XT_seq ?_
      | refine Y_res (r_move rfl) rfl ?_
      | refine Y_res (r_lss rfl rfl) rfl ?_
    refine XC_condP rfl (fun hlt => ?_) (fun hge => ?_)
    · repeat first
        | refine XC_region ?_
        | refine XC_quietF rfl (by kernel_rfl) (by kernel_rfl) drw_hp ?_
        | refine XC_tailF (by kernel_rfl) (by kernel_rfl) drw_hp ?_
        | refine X_nil ?_
        | refine XQ_nil ?_
        | refine XQ_nilX ?_
        | refine XC_seq ?_
        | refine XT_seq ?_
        | refine XC_block ?_
        | refine XT_block_normal ?_
        | refine XC_skip ?_
        | refine Y_res (r_move rfl) rfl ?_
        | refine Y_res (r_assign rfl) rfl ?_
        | refine Y_res (r_add64 rfl rfl (by omega)) rfl ?_
        | refine Y_res (r_add32 rfl rfl) rfl ?_
        | refine Y_res (r_sub64 rfl rfl (by omega)) rfl ?_
        | refine Y_res (r_xor rfl rfl) rfl ?_
        | refine Y_res (r_shr rfl rfl rfl) rfl ?_
        | refine Y_res (r_indexA0 rfl rfl (by omega)) rfl ?_
        | refine Y_res (r_indexA0T rfl rfl (by omega) (by omega)) rfl ?_
        | refine Y_res (r_loadI rfl (by first | omega | (simp only [List.length_set, List.length_replicate]; omega))) rfl ?_
        | refine X_storeI rfl rfl (by first | omega | (simp only [List.length_set, List.length_replicate]; omega)) ?_
        | refine Y_call (g := 61) rfl rfl (fun w1 hM => (rot _ (by decide) _ w1).mono fun e w2 h => ⟨h.1, hM.keep h.2⟩) ?_
      refine XT_round (t + 1) (by omega) (by omega) ⟨rfl, rfl, rfl, trivial⟩ (fun w3 h3 => ?_)
      rw [show ((t : Int) - 15).toNat = t - 15 by omega, show ((t : Int) - 2).toNat = t - 2 by omega, show ((t : Int) - 7).toNat = t - 7 by omega, show ((t : Int) - 16).toNat = t - 16 by omega] at h3
      rw [← row_next2 l t (by omega) (by omega) _ rfl]
      exact h3
    · obtain rfl : t = 64 := by omega
      repeat first
        | refine XC_region ?_
        | refine XC_quietF rfl (by kernel_rfl) (by kernel_rfl) drw_hp ?_
        | refine X_nil ?_
        | refine XQ_nil ?_
        | refine XC_seq ?_
        | refine XT_seq ?_
        | refine XC_block ?_
        | refine XT_block_same rfl ?_
        | refine XT_then_exit ?_
        | refine XC_exit ?_
        | refine Y_res (r_move rfl) rfl ?_
        | refine Y_res (r_assign rfl) rfl ?_
        | refine Y_res (r_indexA0 rfl rfl (by omega)) rfl ?_
        | refine Y_res (r_nilCheck rfl) rfl ?_
        | refine Y_res (r_loadB rfl rfl) rfl ?_
      have hsl := sch_len l 64
      refine XC_loop (ι := Nat) (fun t => t ≤ 64) (fun t => let q := rnds K (sch l 64) s t; [(0, .pointer (some ⟨g, 0, none⟩)), (4, .pointer (some ⟨gw, 0, none⟩)), (106, .int .i64 t), (9, .int .u32 q.a), (10, .int .u32 q.b), (11, .int .u32 q.c), (12, .int .u32 q.d), (13, .int .u32 q.e), (14, .int .u32 q.f), (15, .int .u32 q.g), (16, .int .u32 q.h)])
        (fun t => Hp w (fun k => k = g) [Ch.ints gw .u32 (sch l 64) 62, Ch.hd g .u32 s.words rest T]) (fun t => 64 - t) 0 (by omega) ⟨rfl, rfl, rfl, rfl, rfl, rfl, rfl, rfl, rfl, rfl, rfl, trivial⟩ (fun _ h => by rw [row64] at h; exact h) ?_
      intro t ht
      repeat first
        | refine XC_region ?_
        | refine X_nil ?_
        | refine XC_seq ?_
        | refine XT_seq ?_
        | refine Y_res (r_lss rfl rfl) rfl ?_
      refine XC_condP rfl (fun hlt => ?_) (fun hge => ?_)
      · repeat first
          | refine XC_region ?_
          | refine XC_quietF rfl (by kernel_rfl) (by kernel_rfl) drw_hp ?_
          | refine X_nil ?_
          | refine XQ_nil ?_
          | refine XC_seq ?_
          | refine XT_seq ?_
          | refine XC_block ?_
          | refine XT_block_normal ?_
          | refine XC_skip ?_
          | refine Y_res (r_move rfl) rfl ?_
          | refine Y_res (r_assign rfl) rfl ?_
          | refine Y_res (r_add64 rfl rfl (by omega)) rfl ?_
          | refine Y_res (r_add32 rfl rfl) rfl ?_
          | refine Y_res (r_and rfl rfl) rfl ?_
          | refine Y_res (r_xor rfl rfl) rfl ?_
          | refine Y_res (r_not rfl) rfl ?_
          | refine Y_res (r_indexA0 rfl rfl (by omega)) rfl ?_
          | refine Y_res (r_loadI rfl (by first | omega | (simp only [List.length_set, List.length_replicate]; omega))) rfl ?_
          | refine Y_call (g := 61) rfl rfl (fun w1 hM => (rot _ (by decide) _ w1).mono fun e w2 h => ⟨h.1, hM.keep h.2⟩) ?_
          | refine Y_res (r_loadO rfl (hK _ (by omega)) (fun e => hg e.symm)) rfl ?_
        refine XT_round (t + 1) (by omega) (by omega) ⟨rfl, rfl, rfl, rfl, rfl, rfl, rfl, rfl, rfl, rfl, rfl, trivial⟩ (fun _ h => h)
      · obtain rfl : t = 64 := by omega
        repeat first
          | refine XC_region ?_
          | refine X_nil ?_
          | refine XC_seq ?_
          | refine XT_seq ?_
          | refine XC_block ?_
          | refine XT_block_same rfl ?_
          | refine XT_then_exit ?_
          | refine XC_exit ?_
          | refine Y_res (r_move rfl) rfl ?_
          | refine Y_res (r_buildI (by rfl) (by rfl)) rfl ?_
        refine XC_loop (ι := Nat) (fun i => i ≤ 8) (fun i => [(0, .pointer (some ⟨g, 0, none⟩)), (177, .agg ((rnds K (sch l 64) s 64).words.map (Value.int .u32)).toArray), (178, .int .i64 i)])
          (fun i => Hp w (fun k => k = g) [Ch.ints gw .u32 (sch l 64) 62, Ch.hd g .u32 (mix s (rnds K (sch l 64) s 64) i) rest T]) (fun i => 8 - i) 0 (by omega) ⟨rfl, rfl, rfl, trivial⟩ (fun _ h => h) ?_
        intro i hi
        have hml := mix_len s (rnds K (sch l 64) s 64) i hi
        repeat first
          | refine XC_region ?_
          | refine X_nil ?_
          | refine XC_seq ?_
          | refine XT_seq ?_
          | refine Y_res (r_lss rfl rfl) rfl ?_
        refine XC_condP rfl (fun hlt => ?_) (fun hge => ?_)
        · repeat first
            | refine XC_region ?_
            | refine XC_tailF (by kernel_rfl) (by kernel_rfl) drw_hp ?_
            | refine X_nil ?_
            | refine XQ_nilX ?_
            | refine XC_seq ?_
            | refine XT_seq ?_
            | refine XC_block ?_
            | refine XT_block_normal ?_
            | refine XC_skip ?_
            | refine Y_res (r_move rfl) rfl ?_
            | refine Y_res (r_assign rfl) rfl ?_
            | refine Y_res (r_add64 rfl rfl (by omega)) rfl ?_
            | refine Y_res (r_add32 rfl rfl) rfl ?_
            | refine Y_res (r_indexA0 rfl rfl (by omega)) rfl ?_
            | refine Y_res (r_nilCheck rfl) rfl ?_
            | refine Y_res (r_loadI rfl (by first | omega | (simp only [List.length_set, List.length_replicate]; omega))) rfl ?_
            | refine Y_res (r_indexV rfl rfl (by omega) (by rfl)) rfl ?_
            | refine X_storeI rfl rfl (by first | omega | (simp only [List.length_set, List.length_replicate]; omega)) ?_
          refine XT_round (i + 1) (by omega) (by omega) ⟨rfl, rfl, rfl, trivial⟩ (fun _ h => ?_)
          rw [← mix_set _ _ i (by omega)]
          exact h
        · obtain rfl : i = 8 := by omega
          repeat first
            | refine XT_block_same rfl ?_
            | refine XT_then_exit ?_
            | refine XC_exit ?_
          refine XT_ret0 (.inr rfl) Tryd.results56 (fun w' h => ?_)
          exact ⟨rfl, h.sat _ (by simp [StAt, mix8]), h.chg⟩
end Go.Proofs.YtgnhpkdhicfeiaaDoor.NSha
