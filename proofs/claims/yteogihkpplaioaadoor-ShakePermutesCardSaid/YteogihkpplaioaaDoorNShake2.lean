/- The sponge, walked. -/
import Derived.Test.YteogihkpplaioaaDoorNShake
namespace Go.Proofs.YteogihkpplaioaaDoor.NShake
open Go Go.RowKit Go.Proofs.YteogihkpplaioaaDoor.MX Go.Proofs.YteogihkpplaioaaDoor.PShake
set_option linter.unusedVariables false
set_option linter.unusedSimpArgs false
set_option maxHeartbeats 1000000 in
theorem put_any (g : Nat) (s : List Int) (rs : List Value) (T : TypeId) (at_ : Nat) (c : Int) (w : World) (hb : (Ch.hd g .u64 s rs T).P w) (hs : s.length = 25) (ha : at_ < 200) (hc : 0 ≤ c ∧ c < 256) :
    Calls Tryd.prog 23 #[.pointer (some ⟨g, 0, none⟩), .int .i64 at_, .int .u8 c] w fun e w' => e = .returned (.tuple #[]) ∧ (Ch.hd g .u64 (xorB s at_ c) rs T).P w' ∧ Chg (fun k => k = g) w w' := by
  refine calls_of_X (vs := [_, _, _]) (M := Hp w (fun k => k = g) [Ch.hd g .u64 s rs T]) Tryd.func23 rfl Tryd.ntmps23 rfl (Hp.one hb (fun k hk => hk)) ?_
  repeat first
    | refine XC_tailF (by kernel_rfl) (by kernel_rfl) drw_hp ?_
    | refine X_nil ?_
    | refine XQ_nilX ?_
    | refine Y_res (r_move rfl) rfl ?_
    | refine Y_res (r_mul64 rfl rfl (by omega)) rfl ?_
    | refine Y_res (r_rem rfl rfl (by omega)) rfl ?_
    | refine Y_res (r_quo rfl rfl (by omega)) rfl ?_
    | refine Y_res (r_xor rfl rfl) rfl ?_
    | refine Y_res (r_convuN rfl (by omega)) rfl ?_
    | refine Y_res (r_indexA0 rfl rfl (by omega)) rfl ?_
    | refine Y_res (r_field' rfl) rfl ?_
    | refine Y_res (r_nilCheck rfl) rfl ?_
    | refine Y_res (r_loadI rfl (by first | omega | (simp only [List.length_set, List.length_replicate]; omega))) rfl ?_
    | refine X_storeI rfl rfl (by first | omega | (simp only [List.length_set, List.length_replicate]; omega)) ?_
    | refine Y_res (r_shlV (s := 8 * (at_ % 8)) rfl rfl (by omega) (by simp only [IntKind.bits]; omega)) rfl ?_
  exact XT_ret0 (.inr rfl) Tryd.results23 (fun w' h => ⟨rfl, by rw [wrap_u64] at h; exact h.head, h.chg⟩)
/-- A sponge that is written to: it was told m. -/
def SpW (g rate : Nat) (m : List Int) : Ch := Ch.hd g .u64 (absb rate m).1 [.int .i64 rate, .int .i64 ((absb rate m).2 : Nat), .bool false] 48
/-- A sponge in whatever state. -/
def SpA (g rate : Nat) (s : List Int) (a : Nat) (b : Bool) : Ch := Ch.hd g .u64 s [.int .i64 rate, .int .i64 a, .bool b] 48
theorem spW_eq (g rate : Nat) (m : List Int) : SpW g rate m = SpA g rate (absb rate m).1 (absb rate m).2 false := rfl
def Rate (rate : Nat) : Prop := rate = 168 ∨ rate = 136
theorem Rate.bd {rate : Nat} (h : Rate rate) : 0 < rate ∧ rate ≤ 200 := by rcases h with rfl | rfl <;> decide
set_option maxHeartbeats 1000000 in
theorem new_any (size : Int) (w : World) (hsz : size = 128 ∨ size = 256) : Calls Tryd.prog 14 #[.int .i64 size] w fun e w' => ∃ g, e = .returned (.pointer (some ⟨g, 0, none⟩)) ∧ w.heap.size ≤ g ∧ (SpW g (if size = 128 then 168 else 136) []).P w' ∧ Chg (fun _ => False) w w' := by
  refine calls_of_X (vs := [_]) (M := Hp w (fun _ => False) []) Tryd.func14 rfl Tryd.ntmps14 rfl (Hp.nil _ _) ?_
  rcases hsz with rfl | rfl
  · repeat first
      | refine XC_region ?_
      | refine X_nil ?_
      | refine XC_condT rfl ?_
      | refine XC_seq ?_
      | refine XT_seq ?_
      | refine XC_block ?_
      | refine Y_res (r_move rfl) rfl ?_
      | refine Y_res (r_assign rfl) rfl ?_
      | refine Y_res (r_eql rfl rfl) rfl ?_
    refine Y_res (r_buildX (v := .agg (zs.map (Value.int .u64) ++ [Value.int .i64 168, Value.int .i64 0, Value.bool false]).toArray) rfl (fun _ => by kernel_rfl)) rfl ?_
    refine X_boxA rfl rfl (fun g hg => ?_)
    repeat first
      | refine X_nil ?_
      | refine XT_seq ?_
      | refine XT_block_ret ?_
      | refine XT_then_ret ?_
      | refine XC_ret ?_
      | refine Y_res (r_assign rfl) rfl ?_
    exact XT_ret1 (.inl rfl) Tryd.results14 rfl (fun w' h => ⟨g, rfl, hg, h.head, h.chg⟩)
  · repeat first
      | refine XC_region ?_
      | refine X_nil ?_
      | refine XC_condT rfl ?_
      | refine XC_condF rfl ?_
      | refine XC_seq ?_
      | refine XT_seq ?_
      | refine XC_block ?_
      | refine Y_res (r_move rfl) rfl ?_
      | refine Y_res (r_assign rfl) rfl ?_
      | refine Y_res (r_eql rfl rfl) rfl ?_
    refine Y_res (r_buildX (v := .agg (zs.map (Value.int .u64) ++ [Value.int .i64 136, Value.int .i64 0, Value.bool false]).toArray) rfl (fun _ => by kernel_rfl)) rfl ?_
    refine X_boxA rfl rfl (fun g hg => ?_)
    repeat first
      | refine X_nil ?_
      | refine XT_seq ?_
      | refine XT_block_ret ?_
      | refine XT_then_ret ?_
      | refine XC_ret ?_
      | refine Y_res (r_assign rfl) rfl ?_
    exact XT_ret1 (.inl rfl) Tryd.results14 rfl (fun w' h => ⟨g, rfl, hg, h.head, h.chg⟩)
set_option maxHeartbeats 1000000 in
theorem new_none (size : Int) (w : World) (hsz : ¬ (size = 128 ∨ size = 256)) : Calls Tryd.prog 14 #[.int .i64 size] w (Says w (.pointer none)) := by
  have h1 : ¬ size = 128 := fun h => hsz (.inl h)
  have h2 : ¬ size = 256 := fun h => hsz (.inr h)
  refine calls_of_X (vs := [_]) (M := Hp w (fun _ => False) []) Tryd.func14 rfl Tryd.ntmps14 rfl (Hp.nil _ _) ?_
  repeat first
    | refine XC_region ?_
    | refine X_nil ?_
    | refine XC_seq ?_
    | refine XT_seq ?_
    | refine XC_block ?_
    | refine Y_res (r_move rfl) rfl ?_
    | refine Y_res (r_assign rfl) rfl ?_
    | refine Y_res (r_eql rfl rfl) rfl ?_
  refine XC_condP rfl (fun h => absurd h h1) (fun _ => ?_)
  repeat first
    | refine XC_region ?_
    | refine X_nil ?_
    | refine XC_seq ?_
    | refine XT_seq ?_
    | refine Y_res (r_assign rfl) rfl ?_
    | refine Y_res (r_eql rfl rfl) rfl ?_
  refine XC_condP rfl (fun h => absurd h h2) (fun _ => ?_)
  repeat first
    | refine XC_region ?_
    | refine X_nil ?_
    | refine XC_seq ?_
    | refine XT_seq ?_
    | refine XT_block_normal ?_
    | refine XC_skip ?_
    | refine XC_ret ?_
    | refine Y_res (r_assign rfl) rfl ?_
  exact XT_says (.inl rfl) Tryd.results14 rfl rfl
set_option maxHeartbeats 2000000 in
theorem write_any (g rate : Nat) (m b : List Int) (A : Option Addr) (c : Nat) (w : World) (hb : (SpW g rate m).P w) (hr : Rds w A c .u8 b) (hwf : ∀ n ∈ b, (Lit.int .u8 n).wf = true) (hA : b ≠ [] → Old (fun k => k = g) A) (hrate : Rate rate) (hK : KAt w) (hg : g ≠ 0) :
    Calls Tryd.prog 15 #[.pointer (some ⟨g, 0, none⟩), .slice A b.length c] w fun e w' => e = .returned (.bool true) ∧ (SpW g rate (m ++ b)).P w' ∧ Chg (fun k => k = g) w w' := by
  have hcb := hr.le
  have hcap := hr.cap
  obtain ⟨hr0, hr2⟩ := hrate.bd
  have hget := get8 hwf
  have hget := Lib.hid hget
  have hs0 := absb_ok hrate.bd m
  refine calls_of_X (vs := [_, _]) (M := Hp w (fun k => k = g) [SpA g rate (absb rate m).1 (absb rate m).2 false]) Tryd.func15 rfl Tryd.ntmps15 rfl (Hp.one hb (fun k hk => hk)) ?_
  unfold SpA
  have hl0 := hs0.1.1
  repeat first
    | refine XC_region ?_
    | refine X_nil ?_
    | refine XC_condF rfl ?_
    | refine XC_seq ?_
    | refine XT_seq ?_
    | refine XC_block ?_
    | refine XC_skip ?_
    | refine Y_res (r_move rfl) rfl ?_
    | refine Y_res (r_assign rfl) rfl ?_
    | refine Y_res (r_len rfl) rfl ?_
    | refine Y_res (r_field' rfl) rfl ?_
    | refine Y_res (r_nilCheck rfl) rfl ?_
    | refine Y_res (r_loadH rfl 0 (by omega) rfl) rfl ?_
    | refine Y_res (r_loadH rfl 1 (by omega) rfl) rfl ?_
    | refine Y_res (r_loadH rfl 2 (by omega) rfl) rfl ?_
  refine XC_loop (ι := Nat) (fun i => i ≤ b.length) (fun i => [(0, .pointer (some ⟨g, 0, none⟩)), (11, .slice A b.length c), (12, .int .i64 b.length), (13, .int .i64 i)])
    (fun i => Hp w (fun k => k = g) [SpW g rate (m ++ b.take i)]) (fun i => b.length - i) 0 (by omega) ⟨rfl, rfl, rfl, rfl, trivial⟩ (fun _ h => by rw [List.take_zero, List.append_nil]; exact h) ?_
  intro i hi
  have hsi := absb_ok hrate.bd (m ++ b.take i)
  have hsn : i < b.length → absb rate (m ++ b.take (i + 1)) = put1 rate (absb rate (m ++ b.take i)) (b.getD i 0) := fun h => by rw [take_snoc h, ← List.append_assoc, absb_snoc]
  rw [spW_eq g rate (m ++ b.take i)]
  obtain ⟨s, hs⟩ : ∃ s, s = (absb rate (m ++ b.take i)).1 := ⟨_, rfl⟩
  obtain ⟨a, ha⟩ : ∃ a, a = (absb rate (m ++ b.take i)).2 := ⟨_, rfl⟩
  have hq : absb rate (m ++ b.take i) = (s, a) := by rw [hs, ha]
  rw [hq] at hsn
  rw [← hs, ← ha] at hsi
  rw [← hs, ← ha]
  obtain ⟨hsl, hat⟩ := hsi
  have hl1 := hsl.1
  unfold SpA
  repeat first
    | refine XC_region ?_
    | refine X_nil ?_
    | refine XC_seq ?_
    | refine XT_seq ?_
    | refine Y_res (r_lss rfl rfl) rfl ?_
  refine XC_condP rfl (fun hlt => ?_) (fun hge => ?_)
  · have hi2 : i < b.length := by omega
    have hsn := hsn hi2
    have hc := hget.out i hi2
    repeat first
      | refine XC_region ?_
      | refine X_nil ?_
      | refine XC_seq ?_
      | refine XT_seq ?_
      | refine XC_block ?_
      | refine XC_skip ?_
      | refine Y_res (r_move rfl) rfl ?_
      | refine Y_res (r_assign rfl) rfl ?_
      | refine Y_res (r_indexR rfl rfl (by assumption) (by omega) (by omega)) rfl ?_
      | refine Y_res (r_field' rfl) rfl ?_
      | refine Y_res (r_nilCheck rfl) rfl ?_
      | refine Y_res (r_loadR rfl (by assumption) (hA (fun e => by rw [e] at hi2; exact absurd hi2 (Nat.not_lt_zero _))) (by omega)) rfl ?_
      | refine Y_res (r_loadH rfl 1 (by omega) rfl) rfl ?_
    refine X_call (g := 23) rfl rfl (fun w1 h1 => (put_any g s _ _ a _ w1 h1.head hl1 (by omega) hc).mono ?_)
    rintro e w2 ⟨rfl, h2, hc2⟩
    refine ⟨_, rfl, _, h1.turn hc2 h2 (fun k hk => .inl hk), ?_⟩
    clear h1 h2 hc2
    have hxl := xorB_lns hsl (k := a) (by omega) (b.getD i 0)
    rw [put1] at hsn
    obtain ⟨x, hx⟩ : ∃ x, x = xorB s a (b.getD i 0) := ⟨_, rfl⟩
    dsimp only at hsn
    rw [← hx] at hxl hsn ⊢
    have hl2 := hxl.1
    repeat first
      | refine XC_region ?_
      | refine XC_quietF rfl (by kernel_rfl) (by kernel_rfl) drw_hp ?_
      | refine X_nil ?_
      | refine XQ_nil ?_
      | refine XC_seq ?_
      | refine XT_seq ?_
      | refine Y_res (r_move rfl) rfl ?_
      | refine Y_res (r_add64 rfl rfl (by omega)) rfl ?_
      | refine Y_res (r_eql rfl rfl) rfl ?_
      | refine Y_res (r_field' rfl) rfl ?_
      | refine Y_res (r_nilCheck rfl) rfl ?_
      | refine Y_res (r_loadH rfl 0 (by omega) rfl) rfl ?_
      | refine Y_res (r_loadH rfl 1 (by omega) rfl) rfl ?_
      | refine X_storeH rfl rfl rfl 1 (by omega) (by simp) ?_

    refine XC_condP rfl (fun h3 => ?_) (fun h3 => ?_)
    · rw [if_pos (by omega)] at hsn
      repeat first
        | refine XC_region ?_
        | refine XC_seq ?_
        | refine Y_res (r_move rfl) rfl ?_
        | refine Y_res (r_field' rfl) rfl ?_
        | refine Y_res (r_nilCheck rfl) rfl ?_
      refine X_call (g := 24) rfl rfl (fun w1 h1 => (permute_any g x _ _ w1 h1.head hl2 (hK.keep h1.chg (fun h => hg h.symm)) hg).mono ?_)
      rintro e w2 ⟨rfl, h2, hc2⟩
      refine ⟨_, rfl, _, h1.turn hc2 h2 (fun k hk => .inl hk), ?_⟩
      clear h1 h2 hc2
      have hl3 := perm_len x
      obtain ⟨y, hy⟩ : ∃ y, y = perm x := ⟨_, rfl⟩
      rw [← hy] at hl3 hsn ⊢
      repeat first
        | refine XC_region ?_
        | refine X_nil ?_
        | refine XT_seq ?_
        | refine XT_block_normal ?_
        | refine Y_res (r_move rfl) rfl ?_
        | refine Y_res (r_add64 rfl rfl (by omega)) rfl ?_
        | refine Y_res (r_field' rfl) rfl ?_
        | refine Y_res (r_nilCheck rfl) rfl ?_
        | refine X_storeH rfl rfl rfl 1 (by omega) (by simp) ?_
      exact XT_round (i + 1) (by omega) (by omega) ⟨rfl, rfl, rfl, rfl, trivial⟩ (fun _ h => by rw [spW_eq g rate (m ++ b.take (i + 1)), hsn]; exact h)
    · rw [if_neg (by omega)] at hsn
      repeat first
        | refine XC_region ?_
        | refine X_nil ?_
        | refine XT_seq ?_
        | refine XT_block_normal ?_
        | refine XC_skip ?_
        | refine Y_res (r_move rfl) rfl ?_
        | refine Y_res (r_add64 rfl rfl (by omega)) rfl ?_
      exact XT_round (i + 1) (by omega) (by omega) ⟨rfl, rfl, rfl, rfl, trivial⟩ (fun _ h => by rw [spW_eq g rate (m ++ b.take (i + 1)), hsn]; exact h)
  · obtain rfl : i = b.length := by omega
    repeat first
      | refine XC_region ?_
      | refine X_nil ?_
      | refine XC_seq ?_
      | refine XT_seq ?_
      | refine XT_block_same rfl ?_
      | refine XT_then_exit ?_
      | refine XC_exit ?_
      | refine XC_ret ?_
      | refine Y_res (r_assign rfl) rfl ?_
    exact XT_ret1 (.inl rfl) Tryd.results15 rfl (fun w' h => ⟨rfl, by rw [spW_eq, ← List.take_length (l := b), hq]; exact h.head, h.chg⟩)
end Go.Proofs.YteogihkpplaioaaDoor.NShake
