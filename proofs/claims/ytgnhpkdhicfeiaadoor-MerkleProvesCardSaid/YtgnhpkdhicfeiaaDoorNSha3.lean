/- SHA-256's sum, as the program tells it. -/
import Derived.Test.YtgnhpkdhicfeiaaDoorNSha2
namespace Go.Proofs.YtgnhpkdhicfeiaaDoor.NSha
open Go Go.RowKit Go.Proofs.YtgnhpkdhicfeiaaDoor.MX Go.Proofs.YtgnhpkdhicfeiaaDoor.PSha
set_option linter.unusedVariables false
set_option linter.unusedSimpArgs false
set_option linter.unusedVariables false

theorem KAt.pos {K : List Int} {w : World} (h : KAt K w) : 2 < w.heap.size := World.block_lt_of_cell? _ _ (h 0 (by decide))
/-- What a call hands back: a slice of its own, in new memory. -/
def NewSl (w w' : World) (e : TypeId) (k : IntKind) (xs : List Int) (v : Value) : Prop :=
  ∃ A cap, v = .slice A xs.length cap ∧ (Ch.sl A cap e k xs).P w' ∧ ∀ j, (Ch.sl A cap e k xs).fp j → w.heap.size ≤ j

set_option maxHeartbeats 4000000 in
theorem hsum_any (K : List Int) (g : Nat) (m : List Int) (w : World) (hT : (HAt K g m).P w) (hm : m.length ≤ 900000000) (hK : KAt K w) :
    Calls Tryd.prog 47 #[.pointer (some ⟨g, 0, none⟩)] w fun e w' => ∃ v, e = .returned v ∧ NewSl w w' 5 .u8 (sumS K m) v ∧ Chg (fun _ => False) w w' := by
  obtain ⟨part, hp, hb⟩ := hT
  have hpl := hp.len
  obtain ⟨vs, hvs⟩ : ∃ vs, vs = (stN K m (m.length / 64)).words.map (Value.int .u32) ++ (part.map (Value.int .u8) ++ [Value.int .i64 m.length]) := ⟨_, rfl⟩
  have hb1 : w.heap[g]? = some (.cells vs.toArray 79 (0, 0)) := by rw [hvs]; exact hb
  have hvl : vs.length = 73 := by rw [hvs]; simp [S8.words, hpl]
  have hv1 : ∀ v ∈ vs, v.oneCell' = true := fun v hv => by
    rw [hvs] at hv
    simp only [List.mem_append, List.mem_map, List.mem_singleton] at hv
    rcases hv with ⟨x, _, rfl⟩ | ⟨x, _, rfl⟩ | rfl <;> rfl
  have hn : w.cell? ⟨g, 72, none⟩ = some (.int .i64 m.length) := by simp [World.cell?, hb1, hvs, S8.words, hpl]
  refine calls_of_X (vs := [_]) (M := Hp w (fun _ => False) []) Tryd.func47 rfl Tryd.ntmps47 rfl (Hp.nil _ _) ?_
  repeat first
    | refine XC_region ?_
    | refine X_nil ?_
    | refine XC_seq ?_
    | refine XT_seq ?_
    | refine XC_block ?_
    | refine Y_res (r_move rfl) rfl ?_
    | refine Y_res (r_assign rfl) rfl ?_
    | refine Y_res (r_add64 rfl rfl (by omega)) rfl ?_
    | refine Y_res (r_sub64 rfl rfl (by omega)) rfl ?_
    | refine Y_res (r_rem rfl rfl (by omega)) rfl ?_
    | refine Y_res (r_indexA0 rfl rfl (by omega)) rfl ?_
    | refine Y_res (r_field' rfl) rfl ?_
    | refine Y_res (r_nilCheck rfl) rfl ?_
    | refine X_storeI rfl rfl (by first | omega | (simp only [List.length_set, List.length_replicate]; omega)) ?_
    | (refine X_allocI rfl ?_; intro _ _)
    | refine Y_res (r_loadA rfl hvl (fun w1 h j u hu => by rw [add_mk, Nat.zero_add]; simp [World.cell?, h.oldblk hb1 (fun h => h), hu])) rfl ?_
    | (refine X_allocB (by rfl) rfl ?_; intro _ _)
    | refine X_storeW rfl rfl hvl (by rw [hvl]; rfl) hv1 ?_
    | refine Y_res (r_loadO rfl hn (fun h => h)) rfl ?_
  rename_i gc hgc gp hgp
  have hN := padN_bd m.length
  have hpi := padN_int m.length
  have hw0 := hK.pos
  refine XC_loop (ι := Nat) (fun i => i ≤ 8) (fun i => [(0, .pointer (some ⟨g, 0, none⟩)), (3, .pointer (some ⟨gc, 0, none⟩)), (4, .pointer (some ⟨gp, 0, none⟩)), (5, .int .i64 (padN m.length : Nat)), (22, .int .i64 i)])
    (fun i => Hp w (fun _ => False) [Ch.ints gp .u8 (padC m.length i) 80, Ch.blk gc vs 79]) (fun i => 8 - i) 0 (by omega) ⟨rfl, rfl, rfl, by rw [← hpi]; rfl, rfl, trivial⟩ (fun w1 h => by
      rw [← pad0]
      unfold Ch.ints
      rw [List.map_set]
      exact h) ?_
  intro i hi
  have hpc := padC_len m.length i hi
  repeat first
    | refine XC_region ?_
    | refine X_nil ?_
    | refine XC_seq ?_
    | refine XT_seq ?_
    | refine Y_res (r_lss rfl rfl) rfl ?_
  refine XC_condP rfl (fun hlt => ?_) (fun hge => ?_)
  · have hi8 : i < 8 := by omega
    repeat first
      | refine XC_region ?_
      | refine X_nil ?_
      | refine XC_seq ?_
      | refine XT_seq ?_
      | refine XC_block ?_
      | refine XT_block_normal ?_
      | refine XC_skip ?_
      | refine Y_res (r_move rfl) rfl ?_
      | refine Y_res (r_assign rfl) rfl ?_
      | refine Y_res (r_add64 rfl rfl (by omega)) rfl ?_
      | refine Y_res (r_sub64 rfl rfl (by omega)) rfl ?_
      | refine Y_res (r_mul64 rfl rfl (by omega)) rfl ?_
      | refine Y_res (r_mulu rfl rfl) rfl ?_
      | refine Y_res (r_conv8 rfl) rfl ?_
      | refine Y_res (r_convuN rfl (by omega)) rfl ?_
      | refine Y_res (r_indexA0 rfl rfl (by omega)) rfl ?_
      | refine Y_res (r_field' rfl) rfl ?_
      | refine Y_res (r_nilCheck rfl) rfl ?_
      | refine X_storeI rfl rfl (by first | omega | (simp only [List.length_set, List.length_replicate]; omega)) ?_
      | refine Y_res (r_loadO rfl hn (fun h => h)) rfl ?_
      | refine Y_res (r_shrV (s := 56 - 8 * i) rfl rfl (by omega) (by simp only [IntKind.bits]; omega)) rfl ?_
    refine XT_round (i + 1) (by omega) (by omega) ⟨rfl, rfl, rfl, rfl, rfl, trivial⟩ (fun w1 h => ?_)
    rw [← padC_set m.length i hi8, lenB_at m.length i hi8, ← Int.emod_eq_of_lt (a := (m.length : Int) * 8) (b := 18446744073709551616) (by omega) (by omega)]
    exact h
  · obtain rfl : i = 8 := by omega
    repeat first
      | refine XC_region ?_
      | refine XC_seq ?_
      | refine XT_seq ?_
      | refine XT_block_same rfl ?_
      | refine XT_then_exit ?_
      | refine XC_exit ?_
      | refine Y_res (r_move rfl) rfl ?_
      | refine Y_res (r_add64 rfl rfl (by omega)) rfl ?_
      | refine Y_res (r_cutAH rfl rfl (by omega)) rfl ?_
    refine X_mem (M' := Hp w (fun _ => False) [HAt K gc m, Ch.ints gp .u8 (padC m.length 8) 80]) (fun w1 h => h.swap.conv ⟨part, hp, by have h1 := h.swap.head; rw [hvs] at h1; exact h1⟩ (fun k hk => hk)) ?_
    refine X_call rfl rfl (fun w1 h => ?_)
    have hne : gc ≠ gp := h.ne rfl rfl
    have hwr := write_any K gc m (padL m.length) (some ⟨gp, 0, none⟩) 72 w1 h.head ((rds_ints h.tail.head (c := 72) (by omega) (by decide)).take (padN m.length + 8)) (fun _ ad e => by cases e; exact fun e2 => hne e2.symm) (by omega) (by rw [padL_len]; omega) (hK.keep h.chg (fun h => h))
    rw [padL_len] at hwr
    refine hwr.mono (fun e w2 h2 => ⟨_, h2.1, _, h.turn h2.2.2 h2.2.1 (fun k hk => .inl hk), ?_⟩)
    clear hwr
    repeat first
      | refine XC_region ?_
      | refine X_nil ?_
      | refine XC_seq ?_
      | refine XT_seq ?_
      | refine Y_res (r_assign rfl) rfl ?_
      | refine Y_res (r_field' rfl) rfl ?_
      | (refine X_make rfl rfl (by omega) (by omega) (by omega) rfl ?_; intro _ _)
    rename_i go hgo
    obtain ⟨F, hF⟩ : ∃ F, F = stN K (m ++ padL m.length) ((m ++ padL m.length).length / 64) := ⟨_, rfl⟩
    refine X_open (fun part2 => Part (m ++ padL m.length) part2) (fun part2 => Hp w (fun _ => False) [Ch.sl (some ⟨go, 0, none⟩) 32 5 .u8 [], Ch.hd gc .u32 F.words (part2.map (Value.int .u8) ++ [Value.int .i64 (m ++ padL m.length).length]) 79, Ch.ints gp .u8 (padC m.length 8) 80]) (fun w1 h => by
      obtain ⟨part2, h1, h2⟩ := h.swap.head
      exact ⟨part2, h1, (Hp.conv (d := Ch.hd gc .u32 F.words (part2.map (Value.int .u8) ++ [Value.int .i64 (m ++ padL m.length).length]) 79) h.swap (by rw [hF]; exact h2) (fun k hk => hk)).swap⟩) ?_
    intro part2 _
    repeat first
      | refine X_nil ?_
      | refine XT_seq ?_
      | refine XC_block ?_
      | refine Y_res (r_move rfl) rfl ?_
      | refine Y_res (r_loadWH rfl (by rfl)) rfl ?_
    refine XC_loop (ι := Option Addr × Nat × Nat) (fun j => j.2.2 ≤ 8) (fun j => [(47, .agg (F.words.map (Value.int .u32)).toArray), (48, .int .i64 j.2.2), (7, .slice j.1 ((F.words.take j.2.2).flatMap b4).length j.2.1)])
      (fun j => Hp w (fun _ => False) [Ch.sl j.1 j.2.1 5 .u8 ((F.words.take j.2.2).flatMap b4), Ch.hd gc .u32 F.words (part2.map (Value.int .u8) ++ [Value.int .i64 (m ++ padL m.length).length]) 79, Ch.ints gp .u8 (padC m.length 8) 80]) (fun j => 8 - j.2.2) (some ⟨go, 0, none⟩, 32, 0) (by dsimp only; omega) ⟨rfl, rfl, rfl, trivial⟩ (fun _ h => h) ?_
    rintro ⟨A1, cap, i⟩ hi
    dsimp only at hi ⊢
    have hfl := fmap_len F i hi
    repeat first
      | refine XC_region ?_
      | refine X_nil ?_
      | refine XC_seq ?_
      | refine XT_seq ?_
      | refine Y_res (r_lss rfl rfl) rfl ?_
    refine XC_condP rfl (fun hlt => ?_) (fun hge => ?_)
    · have hi8 : i < 8 := by omega
      repeat first
        | refine XC_region ?_
        | refine X_nil ?_
        | refine XC_seq ?_
        | refine XT_seq ?_
        | refine XC_block ?_
        | refine XT_block_normal ?_
        | refine XC_skip ?_
        | refine Y_res (r_move rfl) rfl ?_
        | refine Y_res (r_assign rfl) rfl ?_
        | refine Y_res (r_add64 rfl rfl (by omega)) rfl ?_
        | refine Y_res (r_shr rfl rfl rfl) rfl ?_
        | refine Y_res (r_conv8 rfl) rfl ?_
        | refine Y_res (r_indexV rfl rfl (by omega) (by rfl)) rfl ?_
        | (refine X_buildS (by rfl) (by rfl) (by simp) rfl ?_; intro _ _)
        | (refine X_append rfl rfl (fun w_ h_ => rds_ints (Hp.head h_) (by simp) (by decide)) (by rfl) (by rfl) (by rfl) (by first | omega | (simp only [List.length_cons, List.length_nil]; omega)) (by first | omega | (simp only [List.length_cons, List.length_nil]; omega)) rfl ?_; intro _ _)
      refine XT_round (_, _, i + 1) (by dsimp only; omega) (by dsimp only; omega) ⟨rfl, rfl, by dsimp only; rw [← fmap_snoc F i hi8]; rfl, trivial⟩ (fun w3 h3 => ?_)
      dsimp only
      rw [← fmap_snoc F i hi8]
      exact h3.tail
    · obtain rfl : i = 8 := by omega
      repeat first
        | refine XC_region ?_
        | refine X_nil ?_
        | refine XC_seq ?_
        | refine XT_seq ?_
        | refine XT_block_same rfl ?_
        | refine XT_then_exit ?_
        | refine XC_exit ?_
        | refine XC_ret ?_
        | refine Y_res (r_move rfl) rfl ?_
        | refine Y_res (r_assign rfl) rfl ?_
      refine XT_ret1 (.inl rfl) Tryd.results47 rfl (fun w3 h3 => ?_)
      have e8 : (F.words.take 8).flatMap b4 = sumS K m := by rw [sumS, ← hF]; rfl
      rw [e8] at h3 ⊢
      exact ⟨_, rfl, ⟨A1, cap, rfl, h3.head, fun j hj => (h3.own _ (List.mem_cons_self ..) j hj).resolve_left (fun h => h)⟩, h3.chg⟩
theorem rds_lt {w : World} {A : Option Addr} {c : Nat} {k : IntKind} {l : List Int} (hr : Rds w A c k l) (hl : l ≠ []) {ad : Addr} (e : A = some ad) : ad.block < w.heap.size := by
  have h := hr.at_ 0 (List.length_pos_iff.2 hl)
  subst e
  have := World.block_lt_of_cell? _ _ h
  rwa [add_block] at this
theorem newSl_add {w0 w w' : World} {S : Nat → Prop} {cs : List Ch} {e : TypeId} {k : IntKind} {xs : List Int} {A : Option Addr} {cap : Nat} (h : Hp w0 S cs w) (hc : Chg (fun _ => False) w w') (hp : (Ch.sl A cap e k xs).P w') (hf : ∀ j, (Ch.sl A cap e k xs).fp j → w.heap.size ≤ j) : Hp w0 S (Ch.sl A cap e k xs :: cs) w' := h.add hc hp hf
set_option maxHeartbeats 1000000 in
theorem sum_any (K l : List Int) (A : Option Addr) (c : Nat) (w : World) (hr : Rds w A c .u8 l) (hm : l.length ≤ 900000000) (hK : KAt K w) :
    Calls Tryd.prog 35 #[.slice A l.length c] w fun e w' => ∃ v, e = .returned v ∧ NewSl w w' 5 .u8 (sumS K l) v ∧ Chg (fun _ => False) w w' := by
  have hw0 := hK.pos
  refine calls_of_X (vs := [_]) (M := Hp w (fun _ => False) []) Tryd.func35 rfl Tryd.ntmps35 rfl (Hp.nil _ _) ?_
  repeat first
    | refine XC_region ?_
    | refine X_nil ?_
    | refine XC_seq ?_
    | refine XT_seq ?_
    | refine Y_res (r_assign rfl) rfl ?_
  refine X_call rfl rfl (fun w1 h1 => (new_any K w1).mono ?_)
  rintro e w2 ⟨g, rfl, hg, hT, hc⟩
  refine ⟨_, rfl, _, h1.add (d := HAt K g []) hc hT (fun k hk => by rw [show k = g from hk]; exact hg), ?_⟩
  have hgw : w.heap.size ≤ g := Nat.le_trans h1.chg.size hg
  repeat first
    | refine XC_region ?_
    | refine X_nil ?_
    | refine XC_seq ?_
    | refine XT_seq ?_
    | refine Y_res (r_move rfl) rfl ?_
    | refine Y_res (r_assign rfl) rfl ?_
  refine X_call rfl rfl (fun w3 h3 => (write_any K g [] l A c w3 h3.head (hr.old h3 old_false) (fun hl ad e e2 => Nat.lt_irrefl _ (Nat.lt_of_lt_of_le (rds_lt hr hl e) (by rw [e2]; exact hgw))) (by omega) (by simpa using (by omega : l.length ≤ 1000000000)) (hK.keep h3.chg (fun h => h))).mono ?_)
  rintro e w4 ⟨rfl, hT4, hc4⟩
  refine ⟨_, rfl, _, h3.turn hc4 hT4 (fun k hk => .inl hk), ?_⟩
  repeat first
    | refine XC_region ?_
    | refine X_nil ?_
    | refine XC_seq ?_
    | refine XT_seq ?_
    | refine Y_res (r_move rfl) rfl ?_
  refine X_call rfl rfl (fun w5 h5 => (hsum_any K g l w5 h5.head hm (hK.keep h5.chg (fun h => h))).mono ?_)
  rintro e w6 ⟨v, rfl, ⟨A6, cap6, rfl, hp6, hf6⟩, hc6⟩
  refine ⟨_, rfl, _, h5.add hc6 hp6 hf6, ?_⟩
  repeat first
    | refine X_nil ?_
    | refine XT_seq ?_
    | refine XC_ret ?_
    | refine Y_res (r_assign rfl) rfl ?_
  refine XT_ret1 (.inl rfl) Tryd.results35 rfl (fun w7 h7 => ?_)
  exact ⟨_, rfl, ⟨A6, cap6, rfl, h7.head, fun j hj => (h7.own _ (List.mem_cons_self ..) j hj).resolve_left (fun h => h)⟩, h7.chg⟩
end Go.Proofs.YtgnhpkdhicfeiaaDoor.NSha
